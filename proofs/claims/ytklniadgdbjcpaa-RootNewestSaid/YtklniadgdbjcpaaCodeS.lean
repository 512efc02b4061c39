/-
  The functions of the seat, translated to abstract code. Written by a program (wip/Gen2.lean).
-/
import Derived.Test.YtklniadgdbjcpaaCode
import Derived.Test.YtklniadgdbjcpaaProg
set_option maxRecDepth 100000
set_option linter.all false
namespace Go.Proofs.Ytklniadgdbjcpaa.Aw
open Go.RowKit
/- scoria/root.Roots -/
def l_root_Roots_0 : List AOp := [⟨(some 2), .mv (.k (.slc [])), none, none, [], none⟩]
def ac_root_Roots_0 : AC := .reg l_root_Roots_0
def l_root_Roots_1 : List AOp := [⟨(some 3), .nilown 6, none, none, [], none⟩]
def ac_root_Roots_1 : AC := .reg l_root_Roots_1
def l_root_Roots_2 : List AOp := [⟨(some 9), .mv (.t 0), none, none, [], none⟩,
  ⟨(some 10), .len (.t 9), none, none, [], none⟩,
  ⟨(some 11), .mv (.k (.int .i64 0)), none, none, [], none⟩]
def ac_root_Roots_2 : AC := .reg l_root_Roots_2
def l_root_Roots_3 : List AOp := [⟨(some 12), .bin .lss (.t 11) (.t 10), none, none, [], none⟩]
def ac_root_Roots_3 : AC := .reg l_root_Roots_3
def ac_root_Roots_4 : AC := .cond (.t 12) .skip (.exit 0)
def l_root_Roots_5 : List AOp := [⟨(some 13), .isl 6 (.t 9) (.t 11), none, none, [], none⟩,
  ⟨(some 14), .load (some 6) (.t 13), none, none, [], none⟩,
  ⟨(some 5), .alloc [(.int .i64 0), (.int .i64 0), (.int .i64 0), (.int .i64 0), (.int .i64 0), (.str [])], none, none, [], none⟩,
  ⟨none, .store 6 (.t 5) (.t 14), none, none, [], none⟩]
def ac_root_Roots_5 : AC := .reg l_root_Roots_5
def l_root_Roots_6 : List AOp := [⟨(some 15), .faddr 1 (.t 5), none, none, [], none⟩,
  ⟨(some 16), .faddr 0 (.t 15), none, none, [], none⟩,
  ⟨(some 17), .load none (.t 16), none, none, [], none⟩,
  ⟨(some 18), .bin .neq (.t 17) (.k (.int .i64 4)), none, none, [], none⟩,
  ⟨(some 19), .mv (.t 18), none, none, [], none⟩,
  ⟨(some 20), .faddr 1 (.t 5), (some (19, false)), none, [], none⟩,
  ⟨(some 21), .faddr 1 (.t 20), (some (19, false)), none, [], none⟩,
  ⟨(some 22), .load none (.t 21), (some (19, false)), none, [], none⟩,
  ⟨(some 23), .bin .neq (.t 22) (.k (.int .i64 0)), (some (19, false)), none, [], none⟩,
  ⟨(some 24), .pick (.t 19) (.k (.bool true)) (.t 23), none, none, [], none⟩,
  ⟨(some 25), .mv (.t 24), none, none, [], none⟩,
  ⟨(some 26), .faddr 1 (.t 5), (some (25, false)), none, [], none⟩,
  ⟨(some 27), .faddr 2 (.t 26), (some (25, false)), none, [], none⟩,
  ⟨(some 28), .load none (.t 27), (some (25, false)), none, [], none⟩,
  ⟨(some 29), .bin .neq (.t 28) (.k (.int .i64 0)), (some (25, false)), none, [], none⟩,
  ⟨(some 30), .pick (.t 25) (.k (.bool true)) (.t 29), none, none, [], none⟩]
def ac_root_Roots_6 : AC := .reg l_root_Roots_6
def ac_root_Roots_7 : AC := .cond (.t 30) (.exit 1) .skip
def ac_root_Roots_8 : AC := .seq ac_root_Roots_6 ac_root_Roots_7
def l_root_Roots_9 : List AOp := [⟨(some 32), .faddr 1 (.t 5), none, none, [], none⟩,
  ⟨(some 33), .faddr 4 (.t 32), none, none, [], none⟩,
  ⟨(some 34), .load none (.t 33), none, none, [], none⟩,
  ⟨(some 35), .call false 15 [(.t 34)], none, none, [], none⟩,
  ⟨(some 31), .mv (.t 35), none, none, [], none⟩,
  ⟨(some 36), .ext 0 (.t 31), none, none, [], none⟩,
  ⟨(some 37), .ext 1 (.t 31), none, none, [], none⟩,
  ⟨(some 38), .ext 2 (.t 31), none, none, [], none⟩,
  ⟨(some 6), .mv (.t 36), none, none, [], none⟩,
  ⟨(some 7), .mv (.t 37), none, none, [], none⟩,
  ⟨(some 8), .mv (.t 38), none, none, [], none⟩]
def ac_root_Roots_9 : AC := .reg l_root_Roots_9
def l_root_Roots_10 : List AOp := [⟨(some 39), .mv (.t 8), none, none, [], none⟩,
  ⟨(some 40), .bin .eql (.t 39) (.k (.int .i64 0)), none, none, [], none⟩]
def ac_root_Roots_10 : AC := .reg l_root_Roots_10
def l_root_Roots_11 : List AOp := [⟨(some 41), .mv (.t 3), none, none, [], none⟩,
  ⟨(some 42), .load (some 6) (.t 5), none, none, [], none⟩,
  ⟨(some 43), .blds false [(.int .i64 0), (.int .i64 0), (.int .i64 0), (.int .i64 0), (.int .i64 0), (.str [])] 1 [(0, (.t 42))], none, none, [], none⟩,
  ⟨(some 44), .app 6 56 [(.int .i64 0), (.int .i64 0), (.int .i64 0), (.int .i64 0), (.int .i64 0), (.str [])] (.t 41) (.t 43), none, none, [], none⟩,
  ⟨(some 3), .mv (.t 44), none, none, [], none⟩]
def ac_root_Roots_11 : AC := .reg l_root_Roots_11
def ac_root_Roots_12 : AC := .cond (.t 40) ac_root_Roots_11 .skip
def ac_root_Roots_13 : AC := .seq ac_root_Roots_10 ac_root_Roots_12
def ac_root_Roots_14 : AC := .seq ac_root_Roots_9 ac_root_Roots_13
def ac_root_Roots_15 : AC := .seq ac_root_Roots_8 ac_root_Roots_14
def ac_root_Roots_16 : AC := .seq ac_root_Roots_5 ac_root_Roots_15
def ac_root_Roots_17 : AC := .block 1 ac_root_Roots_16
def l_root_Roots_18 : List AOp := [⟨(some 45), .bin .add (.t 11) (.k (.int .i64 1)), none, none, [], none⟩,
  ⟨(some 11), .mv (.t 45), none, none, [], none⟩]
def ac_root_Roots_18 : AC := .reg l_root_Roots_18
def ac_root_Roots_19 : AC := .seq ac_root_Roots_17 ac_root_Roots_18
def ac_root_Roots_20 : AC := .seq ac_root_Roots_4 ac_root_Roots_19
def ac_root_Roots_21 : AC := .seq ac_root_Roots_3 ac_root_Roots_20
def ac_root_Roots_22 : AC := .loop [3, 9, 10, 11] 1000000000 ac_root_Roots_21
def ac_root_Roots_23 : AC := .block 0 ac_root_Roots_22
def ac_root_Roots_24 : AC := .seq ac_root_Roots_2 ac_root_Roots_23
def l_root_Roots_25 : List AOp := [⟨(some 46), .mv (.t 3), none, none, [], none⟩,
  ⟨(some 47), .icall 30 [(.t 46), (.k (.fn (.func 31) [] []))], none, none, [], none⟩]
def ac_root_Roots_25 : AC := .reg l_root_Roots_25
def l_root_Roots_26 : List AOp := [⟨(some 48), .mv (.t 3), none, none, [], none⟩,
  ⟨(some 2), .mv (.t 48), none, none, [], none⟩]
def ac_root_Roots_26 : AC := .reg l_root_Roots_26
def ac_root_Roots_27 : AC := .seq ac_root_Roots_26 .ret
def ac_root_Roots_28 : AC := .seq ac_root_Roots_25 ac_root_Roots_27
def ac_root_Roots_29 : AC := .seq ac_root_Roots_24 ac_root_Roots_28
def ac_root_Roots_30 : AC := .seq ac_root_Roots_1 ac_root_Roots_29
def ac_root_Roots_31 : AC := .seq ac_root_Roots_0 ac_root_Roots_30
def ac_root_Roots : AC := ac_root_Roots_31
theorem comp_root_Roots : compF Try.prog [3, 1000030] (drawR Try.prog [3, 1000030] Try.f18.ntmps) [([3, 9, 10, 11], 1000000000)] 1 Try.f18 = some (ac_root_Roots, [.t 2]) := by kernel_rfl
def U_root_Roots := (And.intro (And.intro (And.intro (And.intro (And.intro (And.intro @ac_root_Roots.eq_1 (@mR _ _ ac_root_Roots_0.eq_1)) (@mR _ _ ac_root_Roots_1.eq_1)) (And.intro (And.intro (@mR _ _ ac_root_Roots_2.eq_1) (@mR _ _ ac_root_Roots_3.eq_1)) (@mU _ _ ac_root_Roots_4.eq_1))) (And.intro (And.intro (And.intro (@mR _ _ ac_root_Roots_5.eq_1) (@mR _ _ ac_root_Roots_6.eq_1)) (@mU _ _ ac_root_Roots_7.eq_1)) (And.intro (And.intro (@mU _ _ ac_root_Roots_8.eq_1) (@mR _ _ ac_root_Roots_9.eq_1)) (@mR _ _ ac_root_Roots_10.eq_1)))) (And.intro (And.intro (And.intro (And.intro (@mR _ _ ac_root_Roots_11.eq_1) (@mU _ _ ac_root_Roots_12.eq_1)) (@mU _ _ ac_root_Roots_13.eq_1)) (And.intro (And.intro (@mU _ _ ac_root_Roots_14.eq_1) (@mU _ _ ac_root_Roots_15.eq_1)) (@mU _ _ ac_root_Roots_16.eq_1))) (And.intro (And.intro (And.intro (@mU _ _ ac_root_Roots_17.eq_1) (@mR _ _ ac_root_Roots_18.eq_1)) (@mU _ _ ac_root_Roots_19.eq_1)) (And.intro (@mU _ _ ac_root_Roots_20.eq_1) (@mU _ _ ac_root_Roots_21.eq_1))))) (And.intro (And.intro (And.intro (And.intro (And.intro (@mU _ _ ac_root_Roots_22.eq_1) (@mU _ _ ac_root_Roots_23.eq_1)) (@mU _ _ ac_root_Roots_24.eq_1)) (And.intro (And.intro (@mR _ _ ac_root_Roots_25.eq_1) (@mR _ _ ac_root_Roots_26.eq_1)) (@mU _ _ ac_root_Roots_27.eq_1))) (And.intro (And.intro (And.intro (@mU _ _ ac_root_Roots_28.eq_1) (@mU _ _ ac_root_Roots_29.eq_1)) (@mU _ _ ac_root_Roots_30.eq_1)) (And.intro (@mU _ _ ac_root_Roots_31.eq_1) @l_root_Roots_0.eq_1))) (And.intro (And.intro (And.intro (And.intro @l_root_Roots_1.eq_1 @l_root_Roots_2.eq_1) @l_root_Roots_3.eq_1) (And.intro (And.intro @l_root_Roots_5.eq_1 @l_root_Roots_6.eq_1) @l_root_Roots_9.eq_1)) (And.intro (And.intro (And.intro @l_root_Roots_10.eq_1 @l_root_Roots_11.eq_1) @l_root_Roots_18.eq_1) (And.intro @l_root_Roots_25.eq_1 @l_root_Roots_26.eq_1)))))

/- slices.SortStableFunc[[]scoria/api.Found,scoria/api.Found] -/
def l_slices_SortStableFunc_api_Found_0 : List AOp := [⟨(some 4), .mv (.t 0), none, none, [], none⟩,
  ⟨(some 5), .mv (.t 0), none, none, [], none⟩,
  ⟨(some 6), .len (.t 5), none, none, [], none⟩,
  ⟨(some 7), .mv (.t 1), none, none, [], none⟩,
  ⟨(some 8), .icall 45 [(.t 4), (.t 6), (.t 7)], none, none, [], none⟩]
def ac_slices_SortStableFunc_api_Found_0 : AC := .reg l_slices_SortStableFunc_api_Found_0
def ac_slices_SortStableFunc_api_Found : AC := ac_slices_SortStableFunc_api_Found_0
theorem comp_slices_SortStableFunc_api_Found : compF Try.prog [1000045] (drawR Try.prog [1000045] Try.f30.ntmps) [] 2 Try.f30 = some (ac_slices_SortStableFunc_api_Found, []) := by kernel_rfl
def U_slices_SortStableFunc_api_Found := (And.intro (And.intro @ac_slices_SortStableFunc_api_Found.eq_1 (@mR _ _ ac_slices_SortStableFunc_api_Found_0.eq_1)) @l_slices_SortStableFunc_api_Found_0.eq_1)

/- scoria/root.Roots$1 -/
def l_root_Roots_c1_0 : List AOp := [⟨(some 2), .box (.t 0), none, none, [], none⟩,
  ⟨(some 3), .box (.t 1), none, none, [], none⟩,
  ⟨(some 4), .mv (.k (.int .i64 0)), none, none, [], none⟩]
def ac_root_Roots_c1_0 : AC := .reg l_root_Roots_c1_0
def l_root_Roots_c1_1 : List AOp := [⟨(some 12), .faddr 1 (.t 2), none, none, [], none⟩,
  ⟨(some 13), .faddr 4 (.t 12), none, none, [], none⟩,
  ⟨(some 14), .load none (.t 13), none, none, [], none⟩,
  ⟨(some 15), .call false 15 [(.t 14)], none, none, [], none⟩,
  ⟨(some 11), .mv (.t 15), none, none, [], none⟩,
  ⟨(some 16), .ext 0 (.t 11), none, none, [], none⟩,
  ⟨(some 17), .ext 1 (.t 11), none, none, [], none⟩,
  ⟨(some 18), .ext 2 (.t 11), none, none, [], none⟩,
  ⟨(some 5), .mv (.t 16), none, none, [], none⟩,
  ⟨(some 6), .mv (.t 17), none, none, [], none⟩,
  ⟨(some 7), .mv (.t 18), none, none, [], none⟩]
def ac_root_Roots_c1_1 : AC := .reg l_root_Roots_c1_1
def l_root_Roots_c1_2 : List AOp := [⟨(some 20), .faddr 1 (.t 3), none, none, [], none⟩,
  ⟨(some 21), .faddr 4 (.t 20), none, none, [], none⟩,
  ⟨(some 22), .load none (.t 21), none, none, [], none⟩,
  ⟨(some 23), .call false 15 [(.t 22)], none, none, [], none⟩,
  ⟨(some 19), .mv (.t 23), none, none, [], none⟩,
  ⟨(some 24), .ext 0 (.t 19), none, none, [], none⟩,
  ⟨(some 25), .ext 1 (.t 19), none, none, [], none⟩,
  ⟨(some 26), .ext 2 (.t 19), none, none, [], none⟩,
  ⟨(some 8), .mv (.t 24), none, none, [], none⟩,
  ⟨(some 9), .mv (.t 25), none, none, [], none⟩,
  ⟨(some 10), .mv (.t 26), none, none, [], none⟩]
def ac_root_Roots_c1_2 : AC := .reg l_root_Roots_c1_2
def l_root_Roots_c1_3 : List AOp := [⟨(some 27), .mv (.t 8), none, none, [], none⟩,
  ⟨(some 28), .mv (.t 5), none, none, [], none⟩,
  ⟨(some 29), .call false 33 [(.t 27), (.t 28)], none, none, [], none⟩,
  ⟨(some 30), .faddr 1 (.t 3), none, none, [], none⟩,
  ⟨(some 31), .faddr 3 (.t 30), none, none, [], none⟩,
  ⟨(some 32), .load none (.t 31), none, none, [], none⟩,
  ⟨(some 33), .faddr 1 (.t 2), none, none, [], none⟩,
  ⟨(some 34), .faddr 3 (.t 33), none, none, [], none⟩,
  ⟨(some 35), .load none (.t 34), none, none, [], none⟩,
  ⟨(some 36), .call false 33 [(.t 32), (.t 35)], none, none, [], none⟩,
  ⟨(some 37), .faddr 0 (.t 3), none, none, [], none⟩,
  ⟨(some 38), .load none (.t 37), none, none, [], none⟩,
  ⟨(some 39), .faddr 0 (.t 2), none, none, [], none⟩,
  ⟨(some 40), .load none (.t 39), none, none, [], none⟩,
  ⟨(some 41), .call false 33 [(.t 38), (.t 40)], none, none, [], none⟩,
  ⟨(some 42), .blds false [(.int .i64 0)] 3 [(0, (.t 29)), (1, (.t 36)), (2, (.t 41))], none, none, [], none⟩,
  ⟨(some 43), .call false 32 [(.t 42)], none, none, [], none⟩,
  ⟨(some 4), .mv (.t 43), none, none, [], none⟩]
def ac_root_Roots_c1_3 : AC := .dreg 0 l_root_Roots_c1_3
def ac_root_Roots_c1_4 : AC := .seq ac_root_Roots_c1_3 .ret
def ac_root_Roots_c1_5 : AC := .seq ac_root_Roots_c1_2 ac_root_Roots_c1_4
def ac_root_Roots_c1_6 : AC := .seq ac_root_Roots_c1_1 ac_root_Roots_c1_5
def ac_root_Roots_c1_7 : AC := .seq ac_root_Roots_c1_0 ac_root_Roots_c1_6
def ac_root_Roots_c1 : AC := ac_root_Roots_c1_7
theorem comp_root_Roots_c1 : compF Try.prog [] (drawR Try.prog [] Try.f31.ntmps) [] 2 Try.f31 = some (ac_root_Roots_c1, [.t 4]) := by kernel_rfl
def U_root_Roots_c1 := (And.intro (And.intro (And.intro (And.intro @ac_root_Roots_c1.eq_1 (@mR _ _ ac_root_Roots_c1_0.eq_1)) (And.intro (@mR _ _ ac_root_Roots_c1_1.eq_1) (@mR _ _ ac_root_Roots_c1_2.eq_1))) (And.intro (And.intro (@mD _ _ _ ac_root_Roots_c1_3.eq_1) (@mU _ _ ac_root_Roots_c1_4.eq_1)) (@mU _ _ ac_root_Roots_c1_5.eq_1))) (And.intro (And.intro (And.intro (@mU _ _ ac_root_Roots_c1_6.eq_1) (@mU _ _ ac_root_Roots_c1_7.eq_1)) @l_root_Roots_c1_0.eq_1) (And.intro (And.intro @l_root_Roots_c1_1.eq_1 @l_root_Roots_c1_2.eq_1) @l_root_Roots_c1_3.eq_1)))

/- cmp.Or[int] -/
def l_cmp_Or_int_0 : List AOp := [⟨(some 2), .mv (.k (.int .i64 0)), none, none, [], none⟩]
def ac_cmp_Or_int_0 : AC := .reg l_cmp_Or_int_0
def l_cmp_Or_int_1 : List AOp := [⟨(some 3), .mv (.k (.int .i64 0)), none, none, [], none⟩]
def ac_cmp_Or_int_1 : AC := .reg l_cmp_Or_int_1
def l_cmp_Or_int_2 : List AOp := [⟨(some 6), .mv (.t 0), none, none, [], none⟩,
  ⟨(some 7), .len (.t 6), none, none, [], none⟩,
  ⟨(some 8), .mv (.k (.int .i64 0)), none, none, [], none⟩]
def ac_cmp_Or_int_2 : AC := .reg l_cmp_Or_int_2
def l_cmp_Or_int_3 : List AOp := [⟨(some 9), .bin .lss (.t 8) (.t 7), none, none, [], none⟩]
def ac_cmp_Or_int_3 : AC := .reg l_cmp_Or_int_3
def ac_cmp_Or_int_4 : AC := .cond (.t 9) .skip (.exit 0)
def l_cmp_Or_int_5 : List AOp := [⟨(some 10), .isl 1 (.t 6) (.t 8), none, none, [], none⟩,
  ⟨(some 11), .load none (.t 10), none, none, [], none⟩,
  ⟨(some 5), .mv (.t 11), none, none, [], none⟩]
def ac_cmp_Or_int_5 : AC := .reg l_cmp_Or_int_5
def l_cmp_Or_int_6 : List AOp := [⟨(some 12), .mv (.t 5), none, none, [], none⟩,
  ⟨(some 13), .mv (.t 3), none, none, [], none⟩,
  ⟨(some 14), .bin .neq (.t 12) (.t 13), none, none, [], none⟩]
def ac_cmp_Or_int_6 : AC := .reg l_cmp_Or_int_6
def l_cmp_Or_int_7 : List AOp := [⟨(some 15), .mv (.t 5), none, none, [], none⟩,
  ⟨(some 2), .mv (.t 15), none, none, [], none⟩]
def ac_cmp_Or_int_7 : AC := .reg l_cmp_Or_int_7
def ac_cmp_Or_int_8 : AC := .seq ac_cmp_Or_int_7 .ret
def ac_cmp_Or_int_9 : AC := .cond (.t 14) ac_cmp_Or_int_8 .skip
def ac_cmp_Or_int_10 : AC := .seq ac_cmp_Or_int_6 ac_cmp_Or_int_9
def ac_cmp_Or_int_11 : AC := .seq ac_cmp_Or_int_5 ac_cmp_Or_int_10
def ac_cmp_Or_int_12 : AC := .block 1 ac_cmp_Or_int_11
def l_cmp_Or_int_13 : List AOp := [⟨(some 16), .bin .add (.t 8) (.k (.int .i64 1)), none, none, [], none⟩,
  ⟨(some 8), .mv (.t 16), none, none, [], none⟩]
def ac_cmp_Or_int_13 : AC := .reg l_cmp_Or_int_13
def ac_cmp_Or_int_14 : AC := .seq ac_cmp_Or_int_12 ac_cmp_Or_int_13
def ac_cmp_Or_int_15 : AC := .seq ac_cmp_Or_int_4 ac_cmp_Or_int_14
def ac_cmp_Or_int_16 : AC := .seq ac_cmp_Or_int_3 ac_cmp_Or_int_15
def ac_cmp_Or_int_17 : AC := .loop [3, 6, 7, 8] 0 ac_cmp_Or_int_16
def ac_cmp_Or_int_18 : AC := .block 0 ac_cmp_Or_int_17
def ac_cmp_Or_int_19 : AC := .seq ac_cmp_Or_int_2 ac_cmp_Or_int_18
def l_cmp_Or_int_20 : List AOp := [⟨(some 17), .mv (.t 3), none, none, [], none⟩,
  ⟨(some 2), .mv (.t 17), none, none, [], none⟩]
def ac_cmp_Or_int_20 : AC := .reg l_cmp_Or_int_20
def ac_cmp_Or_int_21 : AC := .seq ac_cmp_Or_int_20 .ret
def ac_cmp_Or_int_22 : AC := .seq ac_cmp_Or_int_19 ac_cmp_Or_int_21
def ac_cmp_Or_int_23 : AC := .seq ac_cmp_Or_int_1 ac_cmp_Or_int_22
def ac_cmp_Or_int_24 : AC := .seq ac_cmp_Or_int_0 ac_cmp_Or_int_23
def ac_cmp_Or_int : AC := ac_cmp_Or_int_24
theorem comp_cmp_Or_int : compF Try.prog [] (drawR Try.prog [] Try.f32.ntmps) [([3, 6, 7, 8], 0)] 1 Try.f32 = some (ac_cmp_Or_int, [.t 2]) := by kernel_rfl
def U_cmp_Or_int := (And.intro (And.intro (And.intro (And.intro (And.intro (And.intro @ac_cmp_Or_int.eq_1 (@mR _ _ ac_cmp_Or_int_0.eq_1)) (@mR _ _ ac_cmp_Or_int_1.eq_1)) (And.intro (@mR _ _ ac_cmp_Or_int_2.eq_1) (@mR _ _ ac_cmp_Or_int_3.eq_1))) (And.intro (And.intro (@mU _ _ ac_cmp_Or_int_4.eq_1) (@mR _ _ ac_cmp_Or_int_5.eq_1)) (And.intro (@mR _ _ ac_cmp_Or_int_6.eq_1) (@mR _ _ ac_cmp_Or_int_7.eq_1)))) (And.intro (And.intro (And.intro (And.intro (@mU _ _ ac_cmp_Or_int_8.eq_1) (@mU _ _ ac_cmp_Or_int_9.eq_1)) (@mU _ _ ac_cmp_Or_int_10.eq_1)) (And.intro (@mU _ _ ac_cmp_Or_int_11.eq_1) (@mU _ _ ac_cmp_Or_int_12.eq_1))) (And.intro (And.intro (@mR _ _ ac_cmp_Or_int_13.eq_1) (@mU _ _ ac_cmp_Or_int_14.eq_1)) (And.intro (@mU _ _ ac_cmp_Or_int_15.eq_1) (@mU _ _ ac_cmp_Or_int_16.eq_1))))) (And.intro (And.intro (And.intro (And.intro (And.intro (@mU _ _ ac_cmp_Or_int_17.eq_1) (@mU _ _ ac_cmp_Or_int_18.eq_1)) (@mU _ _ ac_cmp_Or_int_19.eq_1)) (And.intro (@mR _ _ ac_cmp_Or_int_20.eq_1) (@mU _ _ ac_cmp_Or_int_21.eq_1))) (And.intro (And.intro (@mU _ _ ac_cmp_Or_int_22.eq_1) (@mU _ _ ac_cmp_Or_int_23.eq_1)) (And.intro (@mU _ _ ac_cmp_Or_int_24.eq_1) @l_cmp_Or_int_0.eq_1))) (And.intro (And.intro (And.intro @l_cmp_Or_int_1.eq_1 @l_cmp_Or_int_2.eq_1) (And.intro @l_cmp_Or_int_3.eq_1 @l_cmp_Or_int_5.eq_1)) (And.intro (And.intro @l_cmp_Or_int_6.eq_1 @l_cmp_Or_int_7.eq_1) (And.intro @l_cmp_Or_int_13.eq_1 @l_cmp_Or_int_20.eq_1)))))

/- cmp.Compare[int] -/
def l_cmp_Compare_int_0 : List AOp := [⟨(some 4), .mv (.k (.int .i64 0)), none, none, [], none⟩]
def ac_cmp_Compare_int_0 : AC := .reg l_cmp_Compare_int_0
def l_cmp_Compare_int_1 : List AOp := [⟨(some 7), .mv (.t 0), none, none, [], none⟩,
  ⟨(some 8), .call false 46 [(.t 7)], none, none, [], none⟩,
  ⟨(some 5), .mv (.t 8), none, none, [], none⟩]
def ac_cmp_Compare_int_1 : AC := .reg l_cmp_Compare_int_1
def l_cmp_Compare_int_2 : List AOp := [⟨(some 9), .mv (.t 1), none, none, [], none⟩,
  ⟨(some 10), .call false 46 [(.t 9)], none, none, [], none⟩,
  ⟨(some 6), .mv (.t 10), none, none, [], none⟩]
def ac_cmp_Compare_int_2 : AC := .reg l_cmp_Compare_int_2
def l_cmp_Compare_int_3 : List AOp := [⟨(some 11), .mv (.t 5), none, none, [], none⟩]
def ac_cmp_Compare_int_3 : AC := .reg l_cmp_Compare_int_3
def l_cmp_Compare_int_4 : List AOp := [⟨(some 12), .mv (.t 6), none, none, [], none⟩]
def ac_cmp_Compare_int_4 : AC := .reg l_cmp_Compare_int_4
def l_cmp_Compare_int_5 : List AOp := [⟨(some 4), .mv (.k (.int .i64 0)), none, none, [], none⟩]
def ac_cmp_Compare_int_5 : AC := .reg l_cmp_Compare_int_5
def ac_cmp_Compare_int_6 : AC := .seq ac_cmp_Compare_int_5 .ret
def ac_cmp_Compare_int_7 : AC := .cond (.t 12) ac_cmp_Compare_int_6 .skip
def ac_cmp_Compare_int_8 : AC := .seq ac_cmp_Compare_int_4 ac_cmp_Compare_int_7
def l_cmp_Compare_int_9 : List AOp := [⟨(some 4), .mv (.k (.int .i64 (-1))), none, none, [], none⟩]
def ac_cmp_Compare_int_9 : AC := .reg l_cmp_Compare_int_9
def ac_cmp_Compare_int_10 : AC := .seq ac_cmp_Compare_int_9 .ret
def ac_cmp_Compare_int_11 : AC := .seq ac_cmp_Compare_int_8 ac_cmp_Compare_int_10
def ac_cmp_Compare_int_12 : AC := .cond (.t 11) ac_cmp_Compare_int_11 .skip
def ac_cmp_Compare_int_13 : AC := .seq ac_cmp_Compare_int_3 ac_cmp_Compare_int_12
def l_cmp_Compare_int_14 : List AOp := [⟨(some 13), .mv (.t 6), none, none, [], none⟩]
def ac_cmp_Compare_int_14 : AC := .reg l_cmp_Compare_int_14
def l_cmp_Compare_int_15 : List AOp := [⟨(some 4), .mv (.k (.int .i64 1)), none, none, [], none⟩]
def ac_cmp_Compare_int_15 : AC := .reg l_cmp_Compare_int_15
def ac_cmp_Compare_int_16 : AC := .seq ac_cmp_Compare_int_15 .ret
def ac_cmp_Compare_int_17 : AC := .cond (.t 13) ac_cmp_Compare_int_16 .skip
def ac_cmp_Compare_int_18 : AC := .seq ac_cmp_Compare_int_14 ac_cmp_Compare_int_17
def l_cmp_Compare_int_19 : List AOp := [⟨(some 14), .mv (.t 0), none, none, [], none⟩,
  ⟨(some 15), .mv (.t 1), none, none, [], none⟩,
  ⟨(some 16), .bin .lss (.t 14) (.t 15), none, none, [], none⟩]
def ac_cmp_Compare_int_19 : AC := .reg l_cmp_Compare_int_19
def l_cmp_Compare_int_20 : List AOp := [⟨(some 4), .mv (.k (.int .i64 (-1))), none, none, [], none⟩]
def ac_cmp_Compare_int_20 : AC := .reg l_cmp_Compare_int_20
def ac_cmp_Compare_int_21 : AC := .seq ac_cmp_Compare_int_20 .ret
def ac_cmp_Compare_int_22 : AC := .cond (.t 16) ac_cmp_Compare_int_21 .skip
def ac_cmp_Compare_int_23 : AC := .seq ac_cmp_Compare_int_19 ac_cmp_Compare_int_22
def l_cmp_Compare_int_24 : List AOp := [⟨(some 17), .mv (.t 0), none, none, [], none⟩,
  ⟨(some 18), .mv (.t 1), none, none, [], none⟩,
  ⟨(some 19), .bin .gtr (.t 17) (.t 18), none, none, [], none⟩]
def ac_cmp_Compare_int_24 : AC := .reg l_cmp_Compare_int_24
def l_cmp_Compare_int_25 : List AOp := [⟨(some 4), .mv (.k (.int .i64 1)), none, none, [], none⟩]
def ac_cmp_Compare_int_25 : AC := .reg l_cmp_Compare_int_25
def ac_cmp_Compare_int_26 : AC := .seq ac_cmp_Compare_int_25 .ret
def ac_cmp_Compare_int_27 : AC := .cond (.t 19) ac_cmp_Compare_int_26 .skip
def ac_cmp_Compare_int_28 : AC := .seq ac_cmp_Compare_int_24 ac_cmp_Compare_int_27
def l_cmp_Compare_int_29 : List AOp := [⟨(some 4), .mv (.k (.int .i64 0)), none, none, [], none⟩]
def ac_cmp_Compare_int_29 : AC := .reg l_cmp_Compare_int_29
def ac_cmp_Compare_int_30 : AC := .seq ac_cmp_Compare_int_29 .ret
def ac_cmp_Compare_int_31 : AC := .seq ac_cmp_Compare_int_28 ac_cmp_Compare_int_30
def ac_cmp_Compare_int_32 : AC := .seq ac_cmp_Compare_int_23 ac_cmp_Compare_int_31
def ac_cmp_Compare_int_33 : AC := .seq ac_cmp_Compare_int_18 ac_cmp_Compare_int_32
def ac_cmp_Compare_int_34 : AC := .seq ac_cmp_Compare_int_13 ac_cmp_Compare_int_33
def ac_cmp_Compare_int_35 : AC := .seq ac_cmp_Compare_int_2 ac_cmp_Compare_int_34
def ac_cmp_Compare_int_36 : AC := .seq ac_cmp_Compare_int_1 ac_cmp_Compare_int_35
def ac_cmp_Compare_int_37 : AC := .seq ac_cmp_Compare_int_0 ac_cmp_Compare_int_36
def ac_cmp_Compare_int : AC := ac_cmp_Compare_int_37
theorem comp_cmp_Compare_int : compF Try.prog [] (drawR Try.prog [] Try.f33.ntmps) [] 2 Try.f33 = some (ac_cmp_Compare_int, [.t 4]) := by kernel_rfl
def U_cmp_Compare_int := (And.intro (And.intro (And.intro (And.intro (And.intro (And.intro @ac_cmp_Compare_int.eq_1 (@mR _ _ ac_cmp_Compare_int_0.eq_1)) (And.intro (@mR _ _ ac_cmp_Compare_int_1.eq_1) (@mR _ _ ac_cmp_Compare_int_2.eq_1))) (And.intro (And.intro (@mR _ _ ac_cmp_Compare_int_3.eq_1) (@mR _ _ ac_cmp_Compare_int_4.eq_1)) (@mR _ _ ac_cmp_Compare_int_5.eq_1))) (And.intro (And.intro (And.intro (@mU _ _ ac_cmp_Compare_int_6.eq_1) (@mU _ _ ac_cmp_Compare_int_7.eq_1)) (And.intro (@mU _ _ ac_cmp_Compare_int_8.eq_1) (@mR _ _ ac_cmp_Compare_int_9.eq_1))) (And.intro (And.intro (@mU _ _ ac_cmp_Compare_int_10.eq_1) (@mU _ _ ac_cmp_Compare_int_11.eq_1)) (@mU _ _ ac_cmp_Compare_int_12.eq_1)))) (And.intro (And.intro (And.intro (And.intro (@mU _ _ ac_cmp_Compare_int_13.eq_1) (@mR _ _ ac_cmp_Compare_int_14.eq_1)) (And.intro (@mR _ _ ac_cmp_Compare_int_15.eq_1) (@mU _ _ ac_cmp_Compare_int_16.eq_1))) (And.intro (And.intro (@mU _ _ ac_cmp_Compare_int_17.eq_1) (@mU _ _ ac_cmp_Compare_int_18.eq_1)) (@mR _ _ ac_cmp_Compare_int_19.eq_1))) (And.intro (And.intro (And.intro (@mR _ _ ac_cmp_Compare_int_20.eq_1) (@mU _ _ ac_cmp_Compare_int_21.eq_1)) (@mU _ _ ac_cmp_Compare_int_22.eq_1)) (And.intro (And.intro (@mU _ _ ac_cmp_Compare_int_23.eq_1) (@mR _ _ ac_cmp_Compare_int_24.eq_1)) (@mR _ _ ac_cmp_Compare_int_25.eq_1))))) (And.intro (And.intro (And.intro (And.intro (And.intro (@mU _ _ ac_cmp_Compare_int_26.eq_1) (@mU _ _ ac_cmp_Compare_int_27.eq_1)) (And.intro (@mU _ _ ac_cmp_Compare_int_28.eq_1) (@mR _ _ ac_cmp_Compare_int_29.eq_1))) (And.intro (And.intro (@mU _ _ ac_cmp_Compare_int_30.eq_1) (@mU _ _ ac_cmp_Compare_int_31.eq_1)) (@mU _ _ ac_cmp_Compare_int_32.eq_1))) (And.intro (And.intro (And.intro (@mU _ _ ac_cmp_Compare_int_33.eq_1) (@mU _ _ ac_cmp_Compare_int_34.eq_1)) (@mU _ _ ac_cmp_Compare_int_35.eq_1)) (And.intro (And.intro (@mU _ _ ac_cmp_Compare_int_36.eq_1) (@mU _ _ ac_cmp_Compare_int_37.eq_1)) @l_cmp_Compare_int_0.eq_1))) (And.intro (And.intro (And.intro (And.intro @l_cmp_Compare_int_1.eq_1 @l_cmp_Compare_int_2.eq_1) (And.intro @l_cmp_Compare_int_3.eq_1 @l_cmp_Compare_int_4.eq_1)) (And.intro (And.intro @l_cmp_Compare_int_5.eq_1 @l_cmp_Compare_int_9.eq_1) @l_cmp_Compare_int_14.eq_1)) (And.intro (And.intro (And.intro @l_cmp_Compare_int_15.eq_1 @l_cmp_Compare_int_19.eq_1) @l_cmp_Compare_int_20.eq_1) (And.intro (And.intro @l_cmp_Compare_int_24.eq_1 @l_cmp_Compare_int_25.eq_1) @l_cmp_Compare_int_29.eq_1)))))

/- slices.stableCmpFunc[scoria/api.Found] -/
def l_slices_stableCmpFunc_api_Found_0 : List AOp := [⟨(some 6), .mv (.k (.int .i64 20)), none, none, [], none⟩]
def ac_slices_stableCmpFunc_api_Found_0 : AC := .reg l_slices_stableCmpFunc_api_Found_0
def l_slices_stableCmpFunc_api_Found_1 : List AOp := [⟨(some 10), .mv (.t 6), none, none, [], none⟩,
  ⟨(some 7), .mv (.k (.int .i64 0)), none, none, [], none⟩,
  ⟨(some 8), .mv (.t 10), none, none, [], none⟩]
def ac_slices_stableCmpFunc_api_Found_1 : AC := .reg l_slices_stableCmpFunc_api_Found_1
def l_slices_stableCmpFunc_api_Found_2 : List AOp := [⟨(some 11), .mv (.t 8), none, none, [], none⟩,
  ⟨(some 12), .mv (.t 1), none, none, [], none⟩,
  ⟨(some 13), .bin .leq (.t 11) (.t 12), none, none, [], none⟩]
def ac_slices_stableCmpFunc_api_Found_2 : AC := .reg l_slices_stableCmpFunc_api_Found_2
def ac_slices_stableCmpFunc_api_Found_3 : AC := .cond (.t 13) .skip (.exit 0)
def ac_slices_stableCmpFunc_api_Found_4 : AC := .seq ac_slices_stableCmpFunc_api_Found_2 ac_slices_stableCmpFunc_api_Found_3
def l_slices_stableCmpFunc_api_Found_5 : List AOp := [⟨(some 14), .mv (.t 0), none, none, [], none⟩,
  ⟨(some 15), .mv (.t 7), none, none, [], none⟩,
  ⟨(some 16), .mv (.t 8), none, none, [], none⟩,
  ⟨(some 17), .mv (.t 2), none, none, [], none⟩,
  ⟨(some 18), .icall 51 [(.t 14), (.t 15), (.t 16), (.t 17)], none, none, [], none⟩]
def ac_slices_stableCmpFunc_api_Found_5 : AC := .reg l_slices_stableCmpFunc_api_Found_5
def l_slices_stableCmpFunc_api_Found_6 : List AOp := [⟨(some 19), .mv (.t 8), none, none, [], none⟩,
  ⟨(some 7), .mv (.t 19), none, none, [], none⟩]
def ac_slices_stableCmpFunc_api_Found_6 : AC := .reg l_slices_stableCmpFunc_api_Found_6
def l_slices_stableCmpFunc_api_Found_7 : List AOp := [⟨(some 20), .mv (.t 8), none, none, [], none⟩,
  ⟨(some 21), .mv (.t 6), none, none, [], none⟩,
  ⟨(some 22), .bin .add (.t 20) (.t 21), none, none, [], none⟩,
  ⟨(some 8), .mv (.t 22), none, none, [], none⟩]
def ac_slices_stableCmpFunc_api_Found_7 : AC := .reg l_slices_stableCmpFunc_api_Found_7
def ac_slices_stableCmpFunc_api_Found_8 : AC := .seq ac_slices_stableCmpFunc_api_Found_6 ac_slices_stableCmpFunc_api_Found_7
def ac_slices_stableCmpFunc_api_Found_9 : AC := .seq ac_slices_stableCmpFunc_api_Found_5 ac_slices_stableCmpFunc_api_Found_8
def ac_slices_stableCmpFunc_api_Found_10 : AC := .block 1 ac_slices_stableCmpFunc_api_Found_9
def ac_slices_stableCmpFunc_api_Found_11 : AC := .seq ac_slices_stableCmpFunc_api_Found_4 ac_slices_stableCmpFunc_api_Found_10
def ac_slices_stableCmpFunc_api_Found_12 : AC := .loop [0, 1, 2, 6, 7, 8] 1000000000 ac_slices_stableCmpFunc_api_Found_11
def ac_slices_stableCmpFunc_api_Found_13 : AC := .block 0 ac_slices_stableCmpFunc_api_Found_12
def l_slices_stableCmpFunc_api_Found_14 : List AOp := [⟨(some 23), .mv (.t 0), none, none, [], none⟩,
  ⟨(some 24), .mv (.t 7), none, none, [], none⟩,
  ⟨(some 25), .mv (.t 1), none, none, [], none⟩,
  ⟨(some 26), .mv (.t 2), none, none, [], none⟩,
  ⟨(some 27), .icall 51 [(.t 23), (.t 24), (.t 25), (.t 26)], none, none, [], none⟩]
def ac_slices_stableCmpFunc_api_Found_14 : AC := .reg l_slices_stableCmpFunc_api_Found_14
def l_slices_stableCmpFunc_api_Found_15 : List AOp := [⟨(some 28), .mv (.t 6), none, none, [], none⟩,
  ⟨(some 29), .mv (.t 1), none, none, [], none⟩,
  ⟨(some 30), .bin .lss (.t 28) (.t 29), none, none, [], none⟩]
def ac_slices_stableCmpFunc_api_Found_15 : AC := .reg l_slices_stableCmpFunc_api_Found_15
def ac_slices_stableCmpFunc_api_Found_16 : AC := .cond (.t 30) .skip (.exit 2)
def ac_slices_stableCmpFunc_api_Found_17 : AC := .seq ac_slices_stableCmpFunc_api_Found_15 ac_slices_stableCmpFunc_api_Found_16
def l_slices_stableCmpFunc_api_Found_18 : List AOp := [⟨(some 31), .mv (.t 6), none, none, [], none⟩,
  ⟨(some 32), .bin .mul (.k (.int .i64 2)) (.t 31), none, none, [], none⟩,
  ⟨(some 7), .mv (.k (.int .i64 0)), none, none, [], none⟩,
  ⟨(some 8), .mv (.t 32), none, none, [], none⟩]
def ac_slices_stableCmpFunc_api_Found_18 : AC := .reg l_slices_stableCmpFunc_api_Found_18
def l_slices_stableCmpFunc_api_Found_19 : List AOp := [⟨(some 33), .mv (.t 8), none, none, [], none⟩,
  ⟨(some 34), .mv (.t 1), none, none, [], none⟩,
  ⟨(some 35), .bin .leq (.t 33) (.t 34), none, none, [], none⟩]
def ac_slices_stableCmpFunc_api_Found_19 : AC := .reg l_slices_stableCmpFunc_api_Found_19
def ac_slices_stableCmpFunc_api_Found_20 : AC := .cond (.t 35) .skip (.exit 4)
def ac_slices_stableCmpFunc_api_Found_21 : AC := .seq ac_slices_stableCmpFunc_api_Found_19 ac_slices_stableCmpFunc_api_Found_20
def l_slices_stableCmpFunc_api_Found_22 : List AOp := [⟨(some 36), .mv (.t 0), none, none, [], none⟩,
  ⟨(some 37), .mv (.t 7), none, none, [], none⟩,
  ⟨(some 38), .mv (.t 7), none, none, [], none⟩,
  ⟨(some 39), .mv (.t 6), none, none, [], none⟩,
  ⟨(some 40), .bin .add (.t 38) (.t 39), none, none, [], none⟩,
  ⟨(some 41), .mv (.t 8), none, none, [], none⟩,
  ⟨(some 42), .mv (.t 2), none, none, [], none⟩,
  ⟨(some 43), .icall 52 [(.t 36), (.t 37), (.t 40), (.t 41), (.t 42)], none, none, [], none⟩]
def ac_slices_stableCmpFunc_api_Found_22 : AC := .reg l_slices_stableCmpFunc_api_Found_22
def l_slices_stableCmpFunc_api_Found_23 : List AOp := [⟨(some 44), .mv (.t 8), none, none, [], none⟩,
  ⟨(some 7), .mv (.t 44), none, none, [], none⟩]
def ac_slices_stableCmpFunc_api_Found_23 : AC := .reg l_slices_stableCmpFunc_api_Found_23
def l_slices_stableCmpFunc_api_Found_24 : List AOp := [⟨(some 45), .mv (.t 8), none, none, [], none⟩,
  ⟨(some 46), .mv (.t 6), none, none, [], none⟩,
  ⟨(some 47), .bin .mul (.k (.int .i64 2)) (.t 46), none, none, [], none⟩,
  ⟨(some 48), .bin .add (.t 45) (.t 47), none, none, [], none⟩,
  ⟨(some 8), .mv (.t 48), none, none, [], none⟩]
def ac_slices_stableCmpFunc_api_Found_24 : AC := .reg l_slices_stableCmpFunc_api_Found_24
def ac_slices_stableCmpFunc_api_Found_25 : AC := .seq ac_slices_stableCmpFunc_api_Found_23 ac_slices_stableCmpFunc_api_Found_24
def ac_slices_stableCmpFunc_api_Found_26 : AC := .seq ac_slices_stableCmpFunc_api_Found_22 ac_slices_stableCmpFunc_api_Found_25
def ac_slices_stableCmpFunc_api_Found_27 : AC := .block 5 ac_slices_stableCmpFunc_api_Found_26
def ac_slices_stableCmpFunc_api_Found_28 : AC := .seq ac_slices_stableCmpFunc_api_Found_21 ac_slices_stableCmpFunc_api_Found_27
def ac_slices_stableCmpFunc_api_Found_29 : AC := .loop [0, 1, 2, 6, 7, 8] 1000000000 ac_slices_stableCmpFunc_api_Found_28
def ac_slices_stableCmpFunc_api_Found_30 : AC := .block 4 ac_slices_stableCmpFunc_api_Found_29
def l_slices_stableCmpFunc_api_Found_31 : List AOp := [⟨(some 49), .mv (.t 7), none, none, [], none⟩,
  ⟨(some 50), .mv (.t 6), none, none, [], none⟩,
  ⟨(some 51), .bin .add (.t 49) (.t 50), none, none, [], none⟩,
  ⟨(some 9), .mv (.t 51), none, none, [], none⟩]
def ac_slices_stableCmpFunc_api_Found_31 : AC := .reg l_slices_stableCmpFunc_api_Found_31
def l_slices_stableCmpFunc_api_Found_32 : List AOp := [⟨(some 52), .mv (.t 9), none, none, [], none⟩,
  ⟨(some 53), .mv (.t 1), none, none, [], none⟩,
  ⟨(some 54), .bin .lss (.t 52) (.t 53), none, none, [], none⟩]
def ac_slices_stableCmpFunc_api_Found_32 : AC := .reg l_slices_stableCmpFunc_api_Found_32
def l_slices_stableCmpFunc_api_Found_33 : List AOp := [⟨(some 55), .mv (.t 0), none, none, [], none⟩,
  ⟨(some 56), .mv (.t 7), none, none, [], none⟩,
  ⟨(some 57), .mv (.t 9), none, none, [], none⟩,
  ⟨(some 58), .mv (.t 1), none, none, [], none⟩,
  ⟨(some 59), .mv (.t 2), none, none, [], none⟩,
  ⟨(some 60), .icall 52 [(.t 55), (.t 56), (.t 57), (.t 58), (.t 59)], none, none, [], none⟩]
def ac_slices_stableCmpFunc_api_Found_33 : AC := .reg l_slices_stableCmpFunc_api_Found_33
def ac_slices_stableCmpFunc_api_Found_34 : AC := .cond (.t 54) ac_slices_stableCmpFunc_api_Found_33 .skip
def ac_slices_stableCmpFunc_api_Found_35 : AC := .seq ac_slices_stableCmpFunc_api_Found_32 ac_slices_stableCmpFunc_api_Found_34
def ac_slices_stableCmpFunc_api_Found_36 : AC := .seq ac_slices_stableCmpFunc_api_Found_31 ac_slices_stableCmpFunc_api_Found_35
def l_slices_stableCmpFunc_api_Found_37 : List AOp := [⟨(some 61), .mv (.t 6), none, none, [], none⟩,
  ⟨(some 62), .bin .mul (.t 61) (.k (.int .i64 2)), none, none, [], none⟩,
  ⟨(some 6), .mv (.t 62), none, none, [], none⟩]
def ac_slices_stableCmpFunc_api_Found_37 : AC := .reg l_slices_stableCmpFunc_api_Found_37
def ac_slices_stableCmpFunc_api_Found_38 : AC := .seq ac_slices_stableCmpFunc_api_Found_36 ac_slices_stableCmpFunc_api_Found_37
def ac_slices_stableCmpFunc_api_Found_39 : AC := .seq ac_slices_stableCmpFunc_api_Found_30 ac_slices_stableCmpFunc_api_Found_38
def ac_slices_stableCmpFunc_api_Found_40 : AC := .seq ac_slices_stableCmpFunc_api_Found_18 ac_slices_stableCmpFunc_api_Found_39
def ac_slices_stableCmpFunc_api_Found_41 : AC := .block 3 ac_slices_stableCmpFunc_api_Found_40
def ac_slices_stableCmpFunc_api_Found_42 : AC := .seq ac_slices_stableCmpFunc_api_Found_17 ac_slices_stableCmpFunc_api_Found_41
def ac_slices_stableCmpFunc_api_Found_43 : AC := .loop [0, 1, 2, 6] 1000000000 ac_slices_stableCmpFunc_api_Found_42
def ac_slices_stableCmpFunc_api_Found_44 : AC := .block 2 ac_slices_stableCmpFunc_api_Found_43
def ac_slices_stableCmpFunc_api_Found_45 : AC := .seq ac_slices_stableCmpFunc_api_Found_14 ac_slices_stableCmpFunc_api_Found_44
def ac_slices_stableCmpFunc_api_Found_46 : AC := .seq ac_slices_stableCmpFunc_api_Found_13 ac_slices_stableCmpFunc_api_Found_45
def ac_slices_stableCmpFunc_api_Found_47 : AC := .seq ac_slices_stableCmpFunc_api_Found_1 ac_slices_stableCmpFunc_api_Found_46
def ac_slices_stableCmpFunc_api_Found_48 : AC := .seq ac_slices_stableCmpFunc_api_Found_0 ac_slices_stableCmpFunc_api_Found_47
def ac_slices_stableCmpFunc_api_Found : AC := ac_slices_stableCmpFunc_api_Found_48
theorem comp_slices_stableCmpFunc_api_Found : compF Try.prog [1000051, 1000052] (drawR Try.prog [1000051, 1000052] Try.f45.ntmps) [([0, 1, 2, 6, 7, 8], 1000000000), ([0, 1, 2, 6], 1000000000), ([0, 1, 2, 6, 7, 8], 1000000000)] 3 Try.f45 = some (ac_slices_stableCmpFunc_api_Found, []) := by kernel_rfl
def U_slices_stableCmpFunc_api_Found := (And.intro (And.intro (And.intro (And.intro (And.intro (And.intro (And.intro @ac_slices_stableCmpFunc_api_Found.eq_1 (@mR _ _ ac_slices_stableCmpFunc_api_Found_0.eq_1)) (@mR _ _ ac_slices_stableCmpFunc_api_Found_1.eq_1)) (And.intro (@mR _ _ ac_slices_stableCmpFunc_api_Found_2.eq_1) (@mU _ _ ac_slices_stableCmpFunc_api_Found_3.eq_1))) (And.intro (And.intro (@mU _ _ ac_slices_stableCmpFunc_api_Found_4.eq_1) (@mR _ _ ac_slices_stableCmpFunc_api_Found_5.eq_1)) (And.intro (@mR _ _ ac_slices_stableCmpFunc_api_Found_6.eq_1) (@mR _ _ ac_slices_stableCmpFunc_api_Found_7.eq_1)))) (And.intro (And.intro (And.intro (@mU _ _ ac_slices_stableCmpFunc_api_Found_8.eq_1) (@mU _ _ ac_slices_stableCmpFunc_api_Found_9.eq_1)) (And.intro (@mU _ _ ac_slices_stableCmpFunc_api_Found_10.eq_1) (@mU _ _ ac_slices_stableCmpFunc_api_Found_11.eq_1))) (And.intro (And.intro (@mU _ _ ac_slices_stableCmpFunc_api_Found_12.eq_1) (@mU _ _ ac_slices_stableCmpFunc_api_Found_13.eq_1)) (And.intro (@mR _ _ ac_slices_stableCmpFunc_api_Found_14.eq_1) (@mR _ _ ac_slices_stableCmpFunc_api_Found_15.eq_1))))) (And.intro (And.intro (And.intro (And.intro (And.intro (@mU _ _ ac_slices_stableCmpFunc_api_Found_16.eq_1) (@mU _ _ ac_slices_stableCmpFunc_api_Found_17.eq_1)) (@mR _ _ ac_slices_stableCmpFunc_api_Found_18.eq_1)) (And.intro (@mR _ _ ac_slices_stableCmpFunc_api_Found_19.eq_1) (@mU _ _ ac_slices_stableCmpFunc_api_Found_20.eq_1))) (And.intro (And.intro (@mU _ _ ac_slices_stableCmpFunc_api_Found_21.eq_1) (@mR _ _ ac_slices_stableCmpFunc_api_Found_22.eq_1)) (And.intro (@mR _ _ ac_slices_stableCmpFunc_api_Found_23.eq_1) (@mR _ _ ac_slices_stableCmpFunc_api_Found_24.eq_1)))) (And.intro (And.intro (And.intro (@mU _ _ ac_slices_stableCmpFunc_api_Found_25.eq_1) (@mU _ _ ac_slices_stableCmpFunc_api_Found_26.eq_1)) (And.intro (@mU _ _ ac_slices_stableCmpFunc_api_Found_27.eq_1) (@mU _ _ ac_slices_stableCmpFunc_api_Found_28.eq_1))) (And.intro (And.intro (@mU _ _ ac_slices_stableCmpFunc_api_Found_29.eq_1) (@mU _ _ ac_slices_stableCmpFunc_api_Found_30.eq_1)) (And.intro (@mR _ _ ac_slices_stableCmpFunc_api_Found_31.eq_1) (@mR _ _ ac_slices_stableCmpFunc_api_Found_32.eq_1)))))) (And.intro (And.intro (And.intro (And.intro (And.intro (And.intro (@mR _ _ ac_slices_stableCmpFunc_api_Found_33.eq_1) (@mU _ _ ac_slices_stableCmpFunc_api_Found_34.eq_1)) (@mU _ _ ac_slices_stableCmpFunc_api_Found_35.eq_1)) (And.intro (@mU _ _ ac_slices_stableCmpFunc_api_Found_36.eq_1) (@mR _ _ ac_slices_stableCmpFunc_api_Found_37.eq_1))) (And.intro (And.intro (@mU _ _ ac_slices_stableCmpFunc_api_Found_38.eq_1) (@mU _ _ ac_slices_stableCmpFunc_api_Found_39.eq_1)) (And.intro (@mU _ _ ac_slices_stableCmpFunc_api_Found_40.eq_1) (@mU _ _ ac_slices_stableCmpFunc_api_Found_41.eq_1)))) (And.intro (And.intro (And.intro (@mU _ _ ac_slices_stableCmpFunc_api_Found_42.eq_1) (@mU _ _ ac_slices_stableCmpFunc_api_Found_43.eq_1)) (And.intro (@mU _ _ ac_slices_stableCmpFunc_api_Found_44.eq_1) (@mU _ _ ac_slices_stableCmpFunc_api_Found_45.eq_1))) (And.intro (And.intro (@mU _ _ ac_slices_stableCmpFunc_api_Found_46.eq_1) (@mU _ _ ac_slices_stableCmpFunc_api_Found_47.eq_1)) (And.intro (@mU _ _ ac_slices_stableCmpFunc_api_Found_48.eq_1) @l_slices_stableCmpFunc_api_Found_0.eq_1)))) (And.intro (And.intro (And.intro (And.intro @l_slices_stableCmpFunc_api_Found_1.eq_1 @l_slices_stableCmpFunc_api_Found_2.eq_1) (And.intro @l_slices_stableCmpFunc_api_Found_5.eq_1 @l_slices_stableCmpFunc_api_Found_6.eq_1)) (And.intro (And.intro @l_slices_stableCmpFunc_api_Found_7.eq_1 @l_slices_stableCmpFunc_api_Found_14.eq_1) (And.intro @l_slices_stableCmpFunc_api_Found_15.eq_1 @l_slices_stableCmpFunc_api_Found_18.eq_1))) (And.intro (And.intro (And.intro @l_slices_stableCmpFunc_api_Found_19.eq_1 @l_slices_stableCmpFunc_api_Found_22.eq_1) (And.intro @l_slices_stableCmpFunc_api_Found_23.eq_1 @l_slices_stableCmpFunc_api_Found_24.eq_1)) (And.intro (And.intro @l_slices_stableCmpFunc_api_Found_31.eq_1 @l_slices_stableCmpFunc_api_Found_32.eq_1) (And.intro @l_slices_stableCmpFunc_api_Found_33.eq_1 @l_slices_stableCmpFunc_api_Found_37.eq_1))))))

/- cmp.isNaN[int] -/
def l_cmp_isNaN_int_0 : List AOp := [⟨(some 2), .mv (.k (.bool false)), none, none, [], none⟩]
def ac_cmp_isNaN_int_0 : AC := .reg l_cmp_isNaN_int_0
def l_cmp_isNaN_int_1 : List AOp := [⟨(some 3), .mv (.t 0), none, none, [], none⟩,
  ⟨(some 4), .mv (.t 0), none, none, [], none⟩,
  ⟨(some 5), .bin .neq (.t 3) (.t 4), none, none, [], none⟩,
  ⟨(some 2), .mv (.t 5), none, none, [], none⟩]
def ac_cmp_isNaN_int_1 : AC := .reg l_cmp_isNaN_int_1
def ac_cmp_isNaN_int_2 : AC := .seq ac_cmp_isNaN_int_1 .ret
def ac_cmp_isNaN_int_3 : AC := .seq ac_cmp_isNaN_int_0 ac_cmp_isNaN_int_2
def ac_cmp_isNaN_int : AC := ac_cmp_isNaN_int_3
theorem comp_cmp_isNaN_int : compF Try.prog [] (drawR Try.prog [] Try.f46.ntmps) [] 1 Try.f46 = some (ac_cmp_isNaN_int, [.t 2]) := by kernel_rfl
def U_cmp_isNaN_int := (And.intro (And.intro (And.intro @ac_cmp_isNaN_int.eq_1 (@mR _ _ ac_cmp_isNaN_int_0.eq_1)) (And.intro (@mR _ _ ac_cmp_isNaN_int_1.eq_1) (@mU _ _ ac_cmp_isNaN_int_2.eq_1))) (And.intro (And.intro (@mU _ _ ac_cmp_isNaN_int_3.eq_1) @l_cmp_isNaN_int_0.eq_1) @l_cmp_isNaN_int_1.eq_1))

/- slices.insertionSortCmpFunc[scoria/api.Found] -/
def l_slices_insertionSortCmpFunc_api_Found_0 : List AOp := [⟨(some 10), .mv (.t 1), none, none, [], none⟩,
  ⟨(some 11), .bin .add (.t 10) (.k (.int .i64 1)), none, none, [], none⟩,
  ⟨(some 8), .mv (.t 11), none, none, [], none⟩]
def ac_slices_insertionSortCmpFunc_api_Found_0 : AC := .reg l_slices_insertionSortCmpFunc_api_Found_0
def l_slices_insertionSortCmpFunc_api_Found_1 : List AOp := [⟨(some 12), .mv (.t 8), none, none, [], none⟩,
  ⟨(some 13), .mv (.t 2), none, none, [], none⟩,
  ⟨(some 14), .bin .lss (.t 12) (.t 13), none, none, [], none⟩]
def ac_slices_insertionSortCmpFunc_api_Found_1 : AC := .reg l_slices_insertionSortCmpFunc_api_Found_1
def ac_slices_insertionSortCmpFunc_api_Found_2 : AC := .cond (.t 14) .skip (.exit 0)
def ac_slices_insertionSortCmpFunc_api_Found_3 : AC := .seq ac_slices_insertionSortCmpFunc_api_Found_1 ac_slices_insertionSortCmpFunc_api_Found_2
def l_slices_insertionSortCmpFunc_api_Found_4 : List AOp := [⟨(some 17), .mv (.t 8), none, none, [], none⟩,
  ⟨(some 9), .mv (.t 17), none, none, [], none⟩]
def ac_slices_insertionSortCmpFunc_api_Found_4 : AC := .reg l_slices_insertionSortCmpFunc_api_Found_4
def l_slices_insertionSortCmpFunc_api_Found_5 : List AOp := [⟨(some 18), .mv (.t 9), none, none, [], none⟩,
  ⟨(some 19), .mv (.t 1), none, none, [], none⟩,
  ⟨(some 20), .bin .gtr (.t 18) (.t 19), none, none, [], none⟩,
  ⟨(some 21), .mv (.t 20), none, none, [], none⟩,
  ⟨(some 22), .mv (.t 3), (some (21, true)), none, [], none⟩,
  ⟨(some 23), .mv (.t 0), (some (21, true)), none, [], none⟩,
  ⟨(some 24), .mv (.t 9), (some (21, true)), none, [], none⟩,
  ⟨(some 25), .isl 6 (.t 23) (.t 24), (some (21, true)), none, [], none⟩,
  ⟨(some 26), .load (some 6) (.t 25), (some (21, true)), none, [], none⟩,
  ⟨(some 27), .mv (.t 0), (some (21, true)), none, [], none⟩,
  ⟨(some 28), .mv (.t 9), (some (21, true)), none, [], none⟩,
  ⟨(some 29), .bin .sub (.t 28) (.k (.int .i64 1)), (some (21, true)), none, [], none⟩,
  ⟨(some 30), .isl 6 (.t 27) (.t 29), (some (21, true)), none, [], none⟩,
  ⟨(some 31), .load (some 6) (.t 30), (some (21, true)), none, [], none⟩,
  ⟨(some 32), .callv (.t 22) [(.t 26), (.t 31)], (some (21, true)), none, [], none⟩,
  ⟨(some 33), .bin .lss (.t 32) (.k (.int .i64 0)), (some (21, true)), none, [], none⟩,
  ⟨(some 34), .pick (.t 21) (.t 33) (.k (.bool false)), none, none, [], none⟩]
def ac_slices_insertionSortCmpFunc_api_Found_5 : AC := .dreg 0 l_slices_insertionSortCmpFunc_api_Found_5
def ac_slices_insertionSortCmpFunc_api_Found_6 : AC := .cond (.t 34) .skip (.exit 2)
def ac_slices_insertionSortCmpFunc_api_Found_7 : AC := .seq ac_slices_insertionSortCmpFunc_api_Found_5 ac_slices_insertionSortCmpFunc_api_Found_6
def l_slices_insertionSortCmpFunc_api_Found_8 : List AOp := [⟨(some 37), .mv (.t 0), none, none, [], none⟩,
  ⟨(some 38), .mv (.t 9), none, none, [], none⟩,
  ⟨(some 39), .mv (.t 0), none, none, [], none⟩,
  ⟨(some 40), .mv (.t 9), none, none, [], none⟩,
  ⟨(some 41), .bin .sub (.t 40) (.k (.int .i64 1)), none, none, [], none⟩,
  ⟨(some 42), .mv (.t 0), none, none, [], none⟩,
  ⟨(some 43), .mv (.t 9), none, none, [], none⟩,
  ⟨(some 44), .bin .sub (.t 43) (.k (.int .i64 1)), none, none, [], none⟩,
  ⟨(some 45), .isl 6 (.t 42) (.t 44), none, none, [], none⟩,
  ⟨(some 46), .load (some 6) (.t 45), none, none, [], none⟩,
  ⟨(some 47), .mv (.t 0), none, none, [], none⟩,
  ⟨(some 48), .mv (.t 9), none, none, [], none⟩,
  ⟨(some 49), .isl 6 (.t 47) (.t 48), none, none, [], none⟩,
  ⟨(some 50), .load (some 6) (.t 49), none, none, [], none⟩,
  ⟨(some 51), .isl 6 (.t 37) (.t 38), none, none, [], none⟩,
  ⟨none, .store 6 (.t 51) (.t 46), none, none, [], none⟩,
  ⟨(some 52), .isl 6 (.t 39) (.t 41), none, none, [], none⟩,
  ⟨none, .store 6 (.t 52) (.t 50), none, none, [], none⟩]
def ac_slices_insertionSortCmpFunc_api_Found_8 : AC := .dreg 0 l_slices_insertionSortCmpFunc_api_Found_8
def ac_slices_insertionSortCmpFunc_api_Found_9 : AC := .block 3 ac_slices_insertionSortCmpFunc_api_Found_8
def l_slices_insertionSortCmpFunc_api_Found_10 : List AOp := [⟨(some 35), .mv (.t 9), none, none, [], none⟩,
  ⟨(some 36), .bin .sub (.t 35) (.k (.int .i64 1)), none, none, [], none⟩,
  ⟨(some 9), .mv (.t 36), none, none, [], none⟩]
def ac_slices_insertionSortCmpFunc_api_Found_10 : AC := .reg l_slices_insertionSortCmpFunc_api_Found_10
def ac_slices_insertionSortCmpFunc_api_Found_11 : AC := .seq ac_slices_insertionSortCmpFunc_api_Found_9 ac_slices_insertionSortCmpFunc_api_Found_10
def ac_slices_insertionSortCmpFunc_api_Found_12 : AC := .seq ac_slices_insertionSortCmpFunc_api_Found_7 ac_slices_insertionSortCmpFunc_api_Found_11
def ac_slices_insertionSortCmpFunc_api_Found_13 : AC := .loop [0, 1, 2, 3, 8, 9] 1000000000 ac_slices_insertionSortCmpFunc_api_Found_12
def ac_slices_insertionSortCmpFunc_api_Found_14 : AC := .block 2 ac_slices_insertionSortCmpFunc_api_Found_13
def ac_slices_insertionSortCmpFunc_api_Found_15 : AC := .seq ac_slices_insertionSortCmpFunc_api_Found_4 ac_slices_insertionSortCmpFunc_api_Found_14
def ac_slices_insertionSortCmpFunc_api_Found_16 : AC := .block 1 ac_slices_insertionSortCmpFunc_api_Found_15
def l_slices_insertionSortCmpFunc_api_Found_17 : List AOp := [⟨(some 15), .mv (.t 8), none, none, [], none⟩,
  ⟨(some 16), .bin .add (.t 15) (.k (.int .i64 1)), none, none, [], none⟩,
  ⟨(some 8), .mv (.t 16), none, none, [], none⟩]
def ac_slices_insertionSortCmpFunc_api_Found_17 : AC := .reg l_slices_insertionSortCmpFunc_api_Found_17
def ac_slices_insertionSortCmpFunc_api_Found_18 : AC := .seq ac_slices_insertionSortCmpFunc_api_Found_16 ac_slices_insertionSortCmpFunc_api_Found_17
def ac_slices_insertionSortCmpFunc_api_Found_19 : AC := .seq ac_slices_insertionSortCmpFunc_api_Found_3 ac_slices_insertionSortCmpFunc_api_Found_18
def ac_slices_insertionSortCmpFunc_api_Found_20 : AC := .loop [0, 1, 2, 3, 8] 1000000000 ac_slices_insertionSortCmpFunc_api_Found_19
def ac_slices_insertionSortCmpFunc_api_Found_21 : AC := .block 0 ac_slices_insertionSortCmpFunc_api_Found_20
def ac_slices_insertionSortCmpFunc_api_Found_22 : AC := .seq ac_slices_insertionSortCmpFunc_api_Found_0 ac_slices_insertionSortCmpFunc_api_Found_21
def ac_slices_insertionSortCmpFunc_api_Found : AC := ac_slices_insertionSortCmpFunc_api_Found_22
theorem comp_slices_insertionSortCmpFunc_api_Found : compF Try.prog [] (drawR Try.prog [] Try.f51.ntmps) [([0, 1, 2, 3, 8], 1000000000), ([0, 1, 2, 3, 8, 9], 1000000000)] 4 Try.f51 = some (ac_slices_insertionSortCmpFunc_api_Found, []) := by kernel_rfl
def U_slices_insertionSortCmpFunc_api_Found := (And.intro (And.intro (And.intro (And.intro (And.intro @ac_slices_insertionSortCmpFunc_api_Found.eq_1 (@mR _ _ ac_slices_insertionSortCmpFunc_api_Found_0.eq_1)) (And.intro (@mR _ _ ac_slices_insertionSortCmpFunc_api_Found_1.eq_1) (@mU _ _ ac_slices_insertionSortCmpFunc_api_Found_2.eq_1))) (And.intro (And.intro (@mU _ _ ac_slices_insertionSortCmpFunc_api_Found_3.eq_1) (@mR _ _ ac_slices_insertionSortCmpFunc_api_Found_4.eq_1)) (And.intro (@mD _ _ _ ac_slices_insertionSortCmpFunc_api_Found_5.eq_1) (@mU _ _ ac_slices_insertionSortCmpFunc_api_Found_6.eq_1)))) (And.intro (And.intro (And.intro (@mU _ _ ac_slices_insertionSortCmpFunc_api_Found_7.eq_1) (@mD _ _ _ ac_slices_insertionSortCmpFunc_api_Found_8.eq_1)) (And.intro (@mU _ _ ac_slices_insertionSortCmpFunc_api_Found_9.eq_1) (@mR _ _ ac_slices_insertionSortCmpFunc_api_Found_10.eq_1))) (And.intro (And.intro (@mU _ _ ac_slices_insertionSortCmpFunc_api_Found_11.eq_1) (@mU _ _ ac_slices_insertionSortCmpFunc_api_Found_12.eq_1)) (And.intro (@mU _ _ ac_slices_insertionSortCmpFunc_api_Found_13.eq_1) (@mU _ _ ac_slices_insertionSortCmpFunc_api_Found_14.eq_1))))) (And.intro (And.intro (And.intro (And.intro (@mU _ _ ac_slices_insertionSortCmpFunc_api_Found_15.eq_1) (@mU _ _ ac_slices_insertionSortCmpFunc_api_Found_16.eq_1)) (And.intro (@mR _ _ ac_slices_insertionSortCmpFunc_api_Found_17.eq_1) (@mU _ _ ac_slices_insertionSortCmpFunc_api_Found_18.eq_1))) (And.intro (And.intro (@mU _ _ ac_slices_insertionSortCmpFunc_api_Found_19.eq_1) (@mU _ _ ac_slices_insertionSortCmpFunc_api_Found_20.eq_1)) (And.intro (@mU _ _ ac_slices_insertionSortCmpFunc_api_Found_21.eq_1) (@mU _ _ ac_slices_insertionSortCmpFunc_api_Found_22.eq_1)))) (And.intro (And.intro (And.intro @l_slices_insertionSortCmpFunc_api_Found_0.eq_1 @l_slices_insertionSortCmpFunc_api_Found_1.eq_1) (And.intro @l_slices_insertionSortCmpFunc_api_Found_4.eq_1 @l_slices_insertionSortCmpFunc_api_Found_5.eq_1)) (And.intro (And.intro @l_slices_insertionSortCmpFunc_api_Found_8.eq_1 @l_slices_insertionSortCmpFunc_api_Found_10.eq_1) @l_slices_insertionSortCmpFunc_api_Found_17.eq_1))))

/- slices.symMergeCmpFunc[scoria/api.Found] -/
def l_slices_symMergeCmpFunc_api_Found_0 : List AOp := [⟨(some 25), .mv (.t 2), none, none, [], none⟩,
  ⟨(some 26), .mv (.t 1), none, none, [], none⟩,
  ⟨(some 27), .bin .sub (.t 25) (.t 26), none, none, [], none⟩,
  ⟨(some 28), .bin .eql (.t 27) (.k (.int .i64 1)), none, none, [], none⟩]
def ac_slices_symMergeCmpFunc_api_Found_0 : AC := .reg l_slices_symMergeCmpFunc_api_Found_0
def l_slices_symMergeCmpFunc_api_Found_1 : List AOp := [⟨(some 29), .mv (.t 2), none, none, [], none⟩,
  ⟨(some 10), .mv (.t 29), none, none, [], none⟩]
def ac_slices_symMergeCmpFunc_api_Found_1 : AC := .reg l_slices_symMergeCmpFunc_api_Found_1
def l_slices_symMergeCmpFunc_api_Found_2 : List AOp := [⟨(some 30), .mv (.t 3), none, none, [], none⟩,
  ⟨(some 11), .mv (.t 30), none, none, [], none⟩]
def ac_slices_symMergeCmpFunc_api_Found_2 : AC := .reg l_slices_symMergeCmpFunc_api_Found_2
def l_slices_symMergeCmpFunc_api_Found_3 : List AOp := [⟨(some 31), .mv (.t 10), none, none, [], none⟩,
  ⟨(some 32), .mv (.t 11), none, none, [], none⟩,
  ⟨(some 33), .bin .lss (.t 31) (.t 32), none, none, [], none⟩]
def ac_slices_symMergeCmpFunc_api_Found_3 : AC := .reg l_slices_symMergeCmpFunc_api_Found_3
def ac_slices_symMergeCmpFunc_api_Found_4 : AC := .cond (.t 33) .skip (.exit 0)
def ac_slices_symMergeCmpFunc_api_Found_5 : AC := .seq ac_slices_symMergeCmpFunc_api_Found_3 ac_slices_symMergeCmpFunc_api_Found_4
def l_slices_symMergeCmpFunc_api_Found_6 : List AOp := [⟨(some 34), .mv (.t 10), none, none, [], none⟩,
  ⟨(some 35), .mv (.t 11), none, none, [], none⟩,
  ⟨(some 36), .bin .add (.t 34) (.t 35), none, none, [], none⟩,
  ⟨(some 37), .conv .u64 (.t 36), none, none, [], none⟩,
  ⟨(some 38), .bin .shr (.t 37) (.k (.int .u64 1)), none, none, [], none⟩,
  ⟨(some 39), .conv .i64 (.t 38), none, none, [], none⟩,
  ⟨(some 12), .mv (.t 39), none, none, [], none⟩]
def ac_slices_symMergeCmpFunc_api_Found_6 : AC := .reg l_slices_symMergeCmpFunc_api_Found_6
def l_slices_symMergeCmpFunc_api_Found_7 : List AOp := [⟨(some 40), .mv (.t 4), none, none, [], none⟩,
  ⟨(some 41), .mv (.t 0), none, none, [], none⟩,
  ⟨(some 42), .mv (.t 12), none, none, [], none⟩,
  ⟨(some 43), .isl 6 (.t 41) (.t 42), none, none, [], none⟩,
  ⟨(some 44), .load (some 6) (.t 43), none, none, [], none⟩,
  ⟨(some 45), .mv (.t 0), none, none, [], none⟩,
  ⟨(some 46), .mv (.t 1), none, none, [], none⟩,
  ⟨(some 47), .isl 6 (.t 45) (.t 46), none, none, [], none⟩,
  ⟨(some 48), .load (some 6) (.t 47), none, none, [], none⟩,
  ⟨(some 49), .callv (.t 40) [(.t 44), (.t 48)], none, none, [], none⟩,
  ⟨(some 50), .bin .lss (.t 49) (.k (.int .i64 0)), none, none, [], none⟩]
def ac_slices_symMergeCmpFunc_api_Found_7 : AC := .dreg 0 l_slices_symMergeCmpFunc_api_Found_7
def l_slices_symMergeCmpFunc_api_Found_8 : List AOp := [⟨(some 51), .mv (.t 12), none, none, [], none⟩,
  ⟨(some 52), .bin .add (.t 51) (.k (.int .i64 1)), none, none, [], none⟩,
  ⟨(some 10), .mv (.t 52), none, none, [], none⟩]
def ac_slices_symMergeCmpFunc_api_Found_8 : AC := .reg l_slices_symMergeCmpFunc_api_Found_8
def l_slices_symMergeCmpFunc_api_Found_9 : List AOp := [⟨(some 53), .mv (.t 12), none, none, [], none⟩,
  ⟨(some 11), .mv (.t 53), none, none, [], none⟩]
def ac_slices_symMergeCmpFunc_api_Found_9 : AC := .reg l_slices_symMergeCmpFunc_api_Found_9
def ac_slices_symMergeCmpFunc_api_Found_10 : AC := .cond (.t 50) ac_slices_symMergeCmpFunc_api_Found_8 ac_slices_symMergeCmpFunc_api_Found_9
def ac_slices_symMergeCmpFunc_api_Found_11 : AC := .seq ac_slices_symMergeCmpFunc_api_Found_7 ac_slices_symMergeCmpFunc_api_Found_10
def ac_slices_symMergeCmpFunc_api_Found_12 : AC := .seq ac_slices_symMergeCmpFunc_api_Found_6 ac_slices_symMergeCmpFunc_api_Found_11
def ac_slices_symMergeCmpFunc_api_Found_13 : AC := .block 1 ac_slices_symMergeCmpFunc_api_Found_12
def ac_slices_symMergeCmpFunc_api_Found_14 : AC := .seq ac_slices_symMergeCmpFunc_api_Found_5 ac_slices_symMergeCmpFunc_api_Found_13
def ac_slices_symMergeCmpFunc_api_Found_15 : AC := .loop [0, 1, 4, 10, 11] 1000000000 ac_slices_symMergeCmpFunc_api_Found_14
def ac_slices_symMergeCmpFunc_api_Found_16 : AC := .block 0 ac_slices_symMergeCmpFunc_api_Found_15
def l_slices_symMergeCmpFunc_api_Found_17 : List AOp := [⟨(some 54), .mv (.t 1), none, none, [], none⟩,
  ⟨(some 13), .mv (.t 54), none, none, [], none⟩]
def ac_slices_symMergeCmpFunc_api_Found_17 : AC := .reg l_slices_symMergeCmpFunc_api_Found_17
def l_slices_symMergeCmpFunc_api_Found_18 : List AOp := [⟨(some 55), .mv (.t 13), none, none, [], none⟩,
  ⟨(some 56), .mv (.t 10), none, none, [], none⟩,
  ⟨(some 57), .bin .sub (.t 56) (.k (.int .i64 1)), none, none, [], none⟩,
  ⟨(some 58), .bin .lss (.t 55) (.t 57), none, none, [], none⟩]
def ac_slices_symMergeCmpFunc_api_Found_18 : AC := .reg l_slices_symMergeCmpFunc_api_Found_18
def ac_slices_symMergeCmpFunc_api_Found_19 : AC := .cond (.t 58) .skip (.exit 2)
def ac_slices_symMergeCmpFunc_api_Found_20 : AC := .seq ac_slices_symMergeCmpFunc_api_Found_18 ac_slices_symMergeCmpFunc_api_Found_19
def l_slices_symMergeCmpFunc_api_Found_21 : List AOp := [⟨(some 61), .mv (.t 0), none, none, [], none⟩,
  ⟨(some 62), .mv (.t 13), none, none, [], none⟩,
  ⟨(some 63), .mv (.t 0), none, none, [], none⟩,
  ⟨(some 64), .mv (.t 13), none, none, [], none⟩,
  ⟨(some 65), .bin .add (.t 64) (.k (.int .i64 1)), none, none, [], none⟩,
  ⟨(some 66), .mv (.t 0), none, none, [], none⟩,
  ⟨(some 67), .mv (.t 13), none, none, [], none⟩,
  ⟨(some 68), .bin .add (.t 67) (.k (.int .i64 1)), none, none, [], none⟩,
  ⟨(some 69), .isl 6 (.t 66) (.t 68), none, none, [], none⟩,
  ⟨(some 70), .load (some 6) (.t 69), none, none, [], none⟩,
  ⟨(some 71), .mv (.t 0), none, none, [], none⟩,
  ⟨(some 72), .mv (.t 13), none, none, [], none⟩,
  ⟨(some 73), .isl 6 (.t 71) (.t 72), none, none, [], none⟩,
  ⟨(some 74), .load (some 6) (.t 73), none, none, [], none⟩,
  ⟨(some 75), .isl 6 (.t 61) (.t 62), none, none, [], none⟩,
  ⟨none, .store 6 (.t 75) (.t 70), none, none, [], none⟩,
  ⟨(some 76), .isl 6 (.t 63) (.t 65), none, none, [], none⟩,
  ⟨none, .store 6 (.t 76) (.t 74), none, none, [], none⟩]
def ac_slices_symMergeCmpFunc_api_Found_21 : AC := .dreg 0 l_slices_symMergeCmpFunc_api_Found_21
def ac_slices_symMergeCmpFunc_api_Found_22 : AC := .block 3 ac_slices_symMergeCmpFunc_api_Found_21
def l_slices_symMergeCmpFunc_api_Found_23 : List AOp := [⟨(some 59), .mv (.t 13), none, none, [], none⟩,
  ⟨(some 60), .bin .add (.t 59) (.k (.int .i64 1)), none, none, [], none⟩,
  ⟨(some 13), .mv (.t 60), none, none, [], none⟩]
def ac_slices_symMergeCmpFunc_api_Found_23 : AC := .reg l_slices_symMergeCmpFunc_api_Found_23
def ac_slices_symMergeCmpFunc_api_Found_24 : AC := .seq ac_slices_symMergeCmpFunc_api_Found_22 ac_slices_symMergeCmpFunc_api_Found_23
def ac_slices_symMergeCmpFunc_api_Found_25 : AC := .seq ac_slices_symMergeCmpFunc_api_Found_20 ac_slices_symMergeCmpFunc_api_Found_24
def ac_slices_symMergeCmpFunc_api_Found_26 : AC := .loop [0, 10, 13] 1000000000 ac_slices_symMergeCmpFunc_api_Found_25
def ac_slices_symMergeCmpFunc_api_Found_27 : AC := .block 2 ac_slices_symMergeCmpFunc_api_Found_26
def ac_slices_symMergeCmpFunc_api_Found_28 : AC := .seq ac_slices_symMergeCmpFunc_api_Found_17 ac_slices_symMergeCmpFunc_api_Found_27
def ac_slices_symMergeCmpFunc_api_Found_29 : AC := .seq ac_slices_symMergeCmpFunc_api_Found_28 .ret
def ac_slices_symMergeCmpFunc_api_Found_30 : AC := .seq ac_slices_symMergeCmpFunc_api_Found_16 ac_slices_symMergeCmpFunc_api_Found_29
def ac_slices_symMergeCmpFunc_api_Found_31 : AC := .seq ac_slices_symMergeCmpFunc_api_Found_2 ac_slices_symMergeCmpFunc_api_Found_30
def ac_slices_symMergeCmpFunc_api_Found_32 : AC := .seq ac_slices_symMergeCmpFunc_api_Found_1 ac_slices_symMergeCmpFunc_api_Found_31
def ac_slices_symMergeCmpFunc_api_Found_33 : AC := .cond (.t 28) ac_slices_symMergeCmpFunc_api_Found_32 .skip
def ac_slices_symMergeCmpFunc_api_Found_34 : AC := .seq ac_slices_symMergeCmpFunc_api_Found_0 ac_slices_symMergeCmpFunc_api_Found_33
def l_slices_symMergeCmpFunc_api_Found_35 : List AOp := [⟨(some 77), .mv (.t 3), none, none, [], none⟩,
  ⟨(some 78), .mv (.t 2), none, none, [], none⟩,
  ⟨(some 79), .bin .sub (.t 77) (.t 78), none, none, [], none⟩,
  ⟨(some 80), .bin .eql (.t 79) (.k (.int .i64 1)), none, none, [], none⟩]
def ac_slices_symMergeCmpFunc_api_Found_35 : AC := .reg l_slices_symMergeCmpFunc_api_Found_35
def l_slices_symMergeCmpFunc_api_Found_36 : List AOp := [⟨(some 81), .mv (.t 1), none, none, [], none⟩,
  ⟨(some 14), .mv (.t 81), none, none, [], none⟩]
def ac_slices_symMergeCmpFunc_api_Found_36 : AC := .reg l_slices_symMergeCmpFunc_api_Found_36
def l_slices_symMergeCmpFunc_api_Found_37 : List AOp := [⟨(some 82), .mv (.t 2), none, none, [], none⟩,
  ⟨(some 15), .mv (.t 82), none, none, [], none⟩]
def ac_slices_symMergeCmpFunc_api_Found_37 : AC := .reg l_slices_symMergeCmpFunc_api_Found_37
def l_slices_symMergeCmpFunc_api_Found_38 : List AOp := [⟨(some 83), .mv (.t 14), none, none, [], none⟩,
  ⟨(some 84), .mv (.t 15), none, none, [], none⟩,
  ⟨(some 85), .bin .lss (.t 83) (.t 84), none, none, [], none⟩]
def ac_slices_symMergeCmpFunc_api_Found_38 : AC := .reg l_slices_symMergeCmpFunc_api_Found_38
def ac_slices_symMergeCmpFunc_api_Found_39 : AC := .cond (.t 85) .skip (.exit 4)
def ac_slices_symMergeCmpFunc_api_Found_40 : AC := .seq ac_slices_symMergeCmpFunc_api_Found_38 ac_slices_symMergeCmpFunc_api_Found_39
def l_slices_symMergeCmpFunc_api_Found_41 : List AOp := [⟨(some 86), .mv (.t 14), none, none, [], none⟩,
  ⟨(some 87), .mv (.t 15), none, none, [], none⟩,
  ⟨(some 88), .bin .add (.t 86) (.t 87), none, none, [], none⟩,
  ⟨(some 89), .conv .u64 (.t 88), none, none, [], none⟩,
  ⟨(some 90), .bin .shr (.t 89) (.k (.int .u64 1)), none, none, [], none⟩,
  ⟨(some 91), .conv .i64 (.t 90), none, none, [], none⟩,
  ⟨(some 16), .mv (.t 91), none, none, [], none⟩]
def ac_slices_symMergeCmpFunc_api_Found_41 : AC := .reg l_slices_symMergeCmpFunc_api_Found_41
def l_slices_symMergeCmpFunc_api_Found_42 : List AOp := [⟨(some 92), .mv (.t 4), none, none, [], none⟩,
  ⟨(some 93), .mv (.t 0), none, none, [], none⟩,
  ⟨(some 94), .mv (.t 2), none, none, [], none⟩,
  ⟨(some 95), .isl 6 (.t 93) (.t 94), none, none, [], none⟩,
  ⟨(some 96), .load (some 6) (.t 95), none, none, [], none⟩,
  ⟨(some 97), .mv (.t 0), none, none, [], none⟩,
  ⟨(some 98), .mv (.t 16), none, none, [], none⟩,
  ⟨(some 99), .isl 6 (.t 97) (.t 98), none, none, [], none⟩,
  ⟨(some 100), .load (some 6) (.t 99), none, none, [], none⟩,
  ⟨(some 101), .callv (.t 92) [(.t 96), (.t 100)], none, none, [], none⟩,
  ⟨(some 102), .bin .lss (.t 101) (.k (.int .i64 0)), none, none, [], none⟩,
  ⟨(some 103), .un .not (.t 102), none, none, [], none⟩]
def ac_slices_symMergeCmpFunc_api_Found_42 : AC := .dreg 0 l_slices_symMergeCmpFunc_api_Found_42
def l_slices_symMergeCmpFunc_api_Found_43 : List AOp := [⟨(some 104), .mv (.t 16), none, none, [], none⟩,
  ⟨(some 105), .bin .add (.t 104) (.k (.int .i64 1)), none, none, [], none⟩,
  ⟨(some 14), .mv (.t 105), none, none, [], none⟩]
def ac_slices_symMergeCmpFunc_api_Found_43 : AC := .reg l_slices_symMergeCmpFunc_api_Found_43
def l_slices_symMergeCmpFunc_api_Found_44 : List AOp := [⟨(some 106), .mv (.t 16), none, none, [], none⟩,
  ⟨(some 15), .mv (.t 106), none, none, [], none⟩]
def ac_slices_symMergeCmpFunc_api_Found_44 : AC := .reg l_slices_symMergeCmpFunc_api_Found_44
def ac_slices_symMergeCmpFunc_api_Found_45 : AC := .cond (.t 103) ac_slices_symMergeCmpFunc_api_Found_43 ac_slices_symMergeCmpFunc_api_Found_44
def ac_slices_symMergeCmpFunc_api_Found_46 : AC := .seq ac_slices_symMergeCmpFunc_api_Found_42 ac_slices_symMergeCmpFunc_api_Found_45
def ac_slices_symMergeCmpFunc_api_Found_47 : AC := .seq ac_slices_symMergeCmpFunc_api_Found_41 ac_slices_symMergeCmpFunc_api_Found_46
def ac_slices_symMergeCmpFunc_api_Found_48 : AC := .block 5 ac_slices_symMergeCmpFunc_api_Found_47
def ac_slices_symMergeCmpFunc_api_Found_49 : AC := .seq ac_slices_symMergeCmpFunc_api_Found_40 ac_slices_symMergeCmpFunc_api_Found_48
def ac_slices_symMergeCmpFunc_api_Found_50 : AC := .loop [0, 2, 4, 14, 15] 1000000000 ac_slices_symMergeCmpFunc_api_Found_49
def ac_slices_symMergeCmpFunc_api_Found_51 : AC := .block 4 ac_slices_symMergeCmpFunc_api_Found_50
def l_slices_symMergeCmpFunc_api_Found_52 : List AOp := [⟨(some 107), .mv (.t 2), none, none, [], none⟩,
  ⟨(some 17), .mv (.t 107), none, none, [], none⟩]
def ac_slices_symMergeCmpFunc_api_Found_52 : AC := .reg l_slices_symMergeCmpFunc_api_Found_52
def l_slices_symMergeCmpFunc_api_Found_53 : List AOp := [⟨(some 108), .mv (.t 17), none, none, [], none⟩,
  ⟨(some 109), .mv (.t 14), none, none, [], none⟩,
  ⟨(some 110), .bin .gtr (.t 108) (.t 109), none, none, [], none⟩]
def ac_slices_symMergeCmpFunc_api_Found_53 : AC := .reg l_slices_symMergeCmpFunc_api_Found_53
def ac_slices_symMergeCmpFunc_api_Found_54 : AC := .cond (.t 110) .skip (.exit 6)
def ac_slices_symMergeCmpFunc_api_Found_55 : AC := .seq ac_slices_symMergeCmpFunc_api_Found_53 ac_slices_symMergeCmpFunc_api_Found_54
def l_slices_symMergeCmpFunc_api_Found_56 : List AOp := [⟨(some 113), .mv (.t 0), none, none, [], none⟩,
  ⟨(some 114), .mv (.t 17), none, none, [], none⟩,
  ⟨(some 115), .mv (.t 0), none, none, [], none⟩,
  ⟨(some 116), .mv (.t 17), none, none, [], none⟩,
  ⟨(some 117), .bin .sub (.t 116) (.k (.int .i64 1)), none, none, [], none⟩,
  ⟨(some 118), .mv (.t 0), none, none, [], none⟩,
  ⟨(some 119), .mv (.t 17), none, none, [], none⟩,
  ⟨(some 120), .bin .sub (.t 119) (.k (.int .i64 1)), none, none, [], none⟩,
  ⟨(some 121), .isl 6 (.t 118) (.t 120), none, none, [], none⟩,
  ⟨(some 122), .load (some 6) (.t 121), none, none, [], none⟩,
  ⟨(some 123), .mv (.t 0), none, none, [], none⟩,
  ⟨(some 124), .mv (.t 17), none, none, [], none⟩,
  ⟨(some 125), .isl 6 (.t 123) (.t 124), none, none, [], none⟩,
  ⟨(some 126), .load (some 6) (.t 125), none, none, [], none⟩,
  ⟨(some 127), .isl 6 (.t 113) (.t 114), none, none, [], none⟩,
  ⟨none, .store 6 (.t 127) (.t 122), none, none, [], none⟩,
  ⟨(some 128), .isl 6 (.t 115) (.t 117), none, none, [], none⟩,
  ⟨none, .store 6 (.t 128) (.t 126), none, none, [], none⟩]
def ac_slices_symMergeCmpFunc_api_Found_56 : AC := .dreg 0 l_slices_symMergeCmpFunc_api_Found_56
def ac_slices_symMergeCmpFunc_api_Found_57 : AC := .block 7 ac_slices_symMergeCmpFunc_api_Found_56
def l_slices_symMergeCmpFunc_api_Found_58 : List AOp := [⟨(some 111), .mv (.t 17), none, none, [], none⟩,
  ⟨(some 112), .bin .sub (.t 111) (.k (.int .i64 1)), none, none, [], none⟩,
  ⟨(some 17), .mv (.t 112), none, none, [], none⟩]
def ac_slices_symMergeCmpFunc_api_Found_58 : AC := .reg l_slices_symMergeCmpFunc_api_Found_58
def ac_slices_symMergeCmpFunc_api_Found_59 : AC := .seq ac_slices_symMergeCmpFunc_api_Found_57 ac_slices_symMergeCmpFunc_api_Found_58
def ac_slices_symMergeCmpFunc_api_Found_60 : AC := .seq ac_slices_symMergeCmpFunc_api_Found_55 ac_slices_symMergeCmpFunc_api_Found_59
def ac_slices_symMergeCmpFunc_api_Found_61 : AC := .loop [0, 14, 17] 1000000000 ac_slices_symMergeCmpFunc_api_Found_60
def ac_slices_symMergeCmpFunc_api_Found_62 : AC := .block 6 ac_slices_symMergeCmpFunc_api_Found_61
def ac_slices_symMergeCmpFunc_api_Found_63 : AC := .seq ac_slices_symMergeCmpFunc_api_Found_52 ac_slices_symMergeCmpFunc_api_Found_62
def ac_slices_symMergeCmpFunc_api_Found_64 : AC := .seq ac_slices_symMergeCmpFunc_api_Found_63 .ret
def ac_slices_symMergeCmpFunc_api_Found_65 : AC := .seq ac_slices_symMergeCmpFunc_api_Found_51 ac_slices_symMergeCmpFunc_api_Found_64
def ac_slices_symMergeCmpFunc_api_Found_66 : AC := .seq ac_slices_symMergeCmpFunc_api_Found_37 ac_slices_symMergeCmpFunc_api_Found_65
def ac_slices_symMergeCmpFunc_api_Found_67 : AC := .seq ac_slices_symMergeCmpFunc_api_Found_36 ac_slices_symMergeCmpFunc_api_Found_66
def ac_slices_symMergeCmpFunc_api_Found_68 : AC := .cond (.t 80) ac_slices_symMergeCmpFunc_api_Found_67 .skip
def ac_slices_symMergeCmpFunc_api_Found_69 : AC := .seq ac_slices_symMergeCmpFunc_api_Found_35 ac_slices_symMergeCmpFunc_api_Found_68
def l_slices_symMergeCmpFunc_api_Found_70 : List AOp := [⟨(some 129), .mv (.t 1), none, none, [], none⟩,
  ⟨(some 130), .mv (.t 3), none, none, [], none⟩,
  ⟨(some 131), .bin .add (.t 129) (.t 130), none, none, [], none⟩,
  ⟨(some 132), .conv .u64 (.t 131), none, none, [], none⟩,
  ⟨(some 133), .bin .shr (.t 132) (.k (.int .u64 1)), none, none, [], none⟩,
  ⟨(some 134), .conv .i64 (.t 133), none, none, [], none⟩,
  ⟨(some 18), .mv (.t 134), none, none, [], none⟩]
def ac_slices_symMergeCmpFunc_api_Found_70 : AC := .reg l_slices_symMergeCmpFunc_api_Found_70
def l_slices_symMergeCmpFunc_api_Found_71 : List AOp := [⟨(some 135), .mv (.t 18), none, none, [], none⟩,
  ⟨(some 136), .mv (.t 2), none, none, [], none⟩,
  ⟨(some 137), .bin .add (.t 135) (.t 136), none, none, [], none⟩,
  ⟨(some 19), .mv (.t 137), none, none, [], none⟩]
def ac_slices_symMergeCmpFunc_api_Found_71 : AC := .reg l_slices_symMergeCmpFunc_api_Found_71
def l_slices_symMergeCmpFunc_api_Found_72 : List AOp := [⟨(some 20), .mv (.k (.int .i64 0)), none, none, [], none⟩,
  ⟨(some 21), .mv (.k (.int .i64 0)), none, none, [], none⟩]
def ac_slices_symMergeCmpFunc_api_Found_72 : AC := .reg l_slices_symMergeCmpFunc_api_Found_72
def l_slices_symMergeCmpFunc_api_Found_73 : List AOp := [⟨(some 138), .mv (.t 2), none, none, [], none⟩,
  ⟨(some 139), .mv (.t 18), none, none, [], none⟩,
  ⟨(some 140), .bin .gtr (.t 138) (.t 139), none, none, [], none⟩]
def ac_slices_symMergeCmpFunc_api_Found_73 : AC := .reg l_slices_symMergeCmpFunc_api_Found_73
def l_slices_symMergeCmpFunc_api_Found_74 : List AOp := [⟨(some 141), .mv (.t 19), none, none, [], none⟩,
  ⟨(some 142), .mv (.t 3), none, none, [], none⟩,
  ⟨(some 143), .bin .sub (.t 141) (.t 142), none, none, [], none⟩,
  ⟨(some 20), .mv (.t 143), none, none, [], none⟩]
def ac_slices_symMergeCmpFunc_api_Found_74 : AC := .reg l_slices_symMergeCmpFunc_api_Found_74
def l_slices_symMergeCmpFunc_api_Found_75 : List AOp := [⟨(some 144), .mv (.t 18), none, none, [], none⟩,
  ⟨(some 21), .mv (.t 144), none, none, [], none⟩]
def ac_slices_symMergeCmpFunc_api_Found_75 : AC := .reg l_slices_symMergeCmpFunc_api_Found_75
def ac_slices_symMergeCmpFunc_api_Found_76 : AC := .seq ac_slices_symMergeCmpFunc_api_Found_74 ac_slices_symMergeCmpFunc_api_Found_75
def l_slices_symMergeCmpFunc_api_Found_77 : List AOp := [⟨(some 145), .mv (.t 1), none, none, [], none⟩,
  ⟨(some 20), .mv (.t 145), none, none, [], none⟩]
def ac_slices_symMergeCmpFunc_api_Found_77 : AC := .reg l_slices_symMergeCmpFunc_api_Found_77
def l_slices_symMergeCmpFunc_api_Found_78 : List AOp := [⟨(some 146), .mv (.t 2), none, none, [], none⟩,
  ⟨(some 21), .mv (.t 146), none, none, [], none⟩]
def ac_slices_symMergeCmpFunc_api_Found_78 : AC := .reg l_slices_symMergeCmpFunc_api_Found_78
def ac_slices_symMergeCmpFunc_api_Found_79 : AC := .seq ac_slices_symMergeCmpFunc_api_Found_77 ac_slices_symMergeCmpFunc_api_Found_78
def ac_slices_symMergeCmpFunc_api_Found_80 : AC := .cond (.t 140) ac_slices_symMergeCmpFunc_api_Found_76 ac_slices_symMergeCmpFunc_api_Found_79
def ac_slices_symMergeCmpFunc_api_Found_81 : AC := .seq ac_slices_symMergeCmpFunc_api_Found_73 ac_slices_symMergeCmpFunc_api_Found_80
def l_slices_symMergeCmpFunc_api_Found_82 : List AOp := [⟨(some 147), .mv (.t 19), none, none, [], none⟩,
  ⟨(some 148), .bin .sub (.t 147) (.k (.int .i64 1)), none, none, [], none⟩,
  ⟨(some 22), .mv (.t 148), none, none, [], none⟩]
def ac_slices_symMergeCmpFunc_api_Found_82 : AC := .reg l_slices_symMergeCmpFunc_api_Found_82
def l_slices_symMergeCmpFunc_api_Found_83 : List AOp := [⟨(some 149), .mv (.t 20), none, none, [], none⟩,
  ⟨(some 150), .mv (.t 21), none, none, [], none⟩,
  ⟨(some 151), .bin .lss (.t 149) (.t 150), none, none, [], none⟩]
def ac_slices_symMergeCmpFunc_api_Found_83 : AC := .reg l_slices_symMergeCmpFunc_api_Found_83
def ac_slices_symMergeCmpFunc_api_Found_84 : AC := .cond (.t 151) .skip (.exit 8)
def ac_slices_symMergeCmpFunc_api_Found_85 : AC := .seq ac_slices_symMergeCmpFunc_api_Found_83 ac_slices_symMergeCmpFunc_api_Found_84
def l_slices_symMergeCmpFunc_api_Found_86 : List AOp := [⟨(some 152), .mv (.t 20), none, none, [], none⟩,
  ⟨(some 153), .mv (.t 21), none, none, [], none⟩,
  ⟨(some 154), .bin .add (.t 152) (.t 153), none, none, [], none⟩,
  ⟨(some 155), .conv .u64 (.t 154), none, none, [], none⟩,
  ⟨(some 156), .bin .shr (.t 155) (.k (.int .u64 1)), none, none, [], none⟩,
  ⟨(some 157), .conv .i64 (.t 156), none, none, [], none⟩,
  ⟨(some 23), .mv (.t 157), none, none, [], none⟩]
def ac_slices_symMergeCmpFunc_api_Found_86 : AC := .reg l_slices_symMergeCmpFunc_api_Found_86
def l_slices_symMergeCmpFunc_api_Found_87 : List AOp := [⟨(some 158), .mv (.t 4), none, none, [], none⟩,
  ⟨(some 159), .mv (.t 0), none, none, [], none⟩,
  ⟨(some 160), .mv (.t 22), none, none, [], none⟩,
  ⟨(some 161), .mv (.t 23), none, none, [], none⟩,
  ⟨(some 162), .bin .sub (.t 160) (.t 161), none, none, [], none⟩,
  ⟨(some 163), .isl 6 (.t 159) (.t 162), none, none, [], none⟩,
  ⟨(some 164), .load (some 6) (.t 163), none, none, [], none⟩,
  ⟨(some 165), .mv (.t 0), none, none, [], none⟩,
  ⟨(some 166), .mv (.t 23), none, none, [], none⟩,
  ⟨(some 167), .isl 6 (.t 165) (.t 166), none, none, [], none⟩,
  ⟨(some 168), .load (some 6) (.t 167), none, none, [], none⟩,
  ⟨(some 169), .callv (.t 158) [(.t 164), (.t 168)], none, none, [], none⟩,
  ⟨(some 170), .bin .lss (.t 169) (.k (.int .i64 0)), none, none, [], none⟩,
  ⟨(some 171), .un .not (.t 170), none, none, [], none⟩]
def ac_slices_symMergeCmpFunc_api_Found_87 : AC := .dreg 0 l_slices_symMergeCmpFunc_api_Found_87
def l_slices_symMergeCmpFunc_api_Found_88 : List AOp := [⟨(some 172), .mv (.t 23), none, none, [], none⟩,
  ⟨(some 173), .bin .add (.t 172) (.k (.int .i64 1)), none, none, [], none⟩,
  ⟨(some 20), .mv (.t 173), none, none, [], none⟩]
def ac_slices_symMergeCmpFunc_api_Found_88 : AC := .reg l_slices_symMergeCmpFunc_api_Found_88
def l_slices_symMergeCmpFunc_api_Found_89 : List AOp := [⟨(some 174), .mv (.t 23), none, none, [], none⟩,
  ⟨(some 21), .mv (.t 174), none, none, [], none⟩]
def ac_slices_symMergeCmpFunc_api_Found_89 : AC := .reg l_slices_symMergeCmpFunc_api_Found_89
def ac_slices_symMergeCmpFunc_api_Found_90 : AC := .cond (.t 171) ac_slices_symMergeCmpFunc_api_Found_88 ac_slices_symMergeCmpFunc_api_Found_89
def ac_slices_symMergeCmpFunc_api_Found_91 : AC := .seq ac_slices_symMergeCmpFunc_api_Found_87 ac_slices_symMergeCmpFunc_api_Found_90
def ac_slices_symMergeCmpFunc_api_Found_92 : AC := .seq ac_slices_symMergeCmpFunc_api_Found_86 ac_slices_symMergeCmpFunc_api_Found_91
def ac_slices_symMergeCmpFunc_api_Found_93 : AC := .block 9 ac_slices_symMergeCmpFunc_api_Found_92
def ac_slices_symMergeCmpFunc_api_Found_94 : AC := .seq ac_slices_symMergeCmpFunc_api_Found_85 ac_slices_symMergeCmpFunc_api_Found_93
def ac_slices_symMergeCmpFunc_api_Found_95 : AC := .loop [0, 1, 2, 3, 4, 18, 19, 20, 21, 22] 1000000000 ac_slices_symMergeCmpFunc_api_Found_94
def ac_slices_symMergeCmpFunc_api_Found_96 : AC := .block 8 ac_slices_symMergeCmpFunc_api_Found_95
def l_slices_symMergeCmpFunc_api_Found_97 : List AOp := [⟨(some 175), .mv (.t 19), none, none, [], none⟩,
  ⟨(some 176), .mv (.t 20), none, none, [], none⟩,
  ⟨(some 177), .bin .sub (.t 175) (.t 176), none, none, [], none⟩,
  ⟨(some 24), .mv (.t 177), none, none, [], none⟩]
def ac_slices_symMergeCmpFunc_api_Found_97 : AC := .reg l_slices_symMergeCmpFunc_api_Found_97
def l_slices_symMergeCmpFunc_api_Found_98 : List AOp := [⟨(some 178), .mv (.t 20), none, none, [], none⟩,
  ⟨(some 179), .mv (.t 2), none, none, [], none⟩,
  ⟨(some 180), .bin .lss (.t 178) (.t 179), none, none, [], none⟩,
  ⟨(some 181), .mv (.t 180), none, none, [], none⟩,
  ⟨(some 182), .mv (.t 2), (some (181, true)), none, [], none⟩,
  ⟨(some 183), .mv (.t 24), (some (181, true)), none, [], none⟩,
  ⟨(some 184), .bin .lss (.t 182) (.t 183), (some (181, true)), none, [], none⟩,
  ⟨(some 185), .pick (.t 181) (.t 184) (.k (.bool false)), none, none, [], none⟩]
def ac_slices_symMergeCmpFunc_api_Found_98 : AC := .reg l_slices_symMergeCmpFunc_api_Found_98
def l_slices_symMergeCmpFunc_api_Found_99 : List AOp := [⟨(some 186), .mv (.t 0), none, none, [], none⟩,
  ⟨(some 187), .mv (.t 20), none, none, [], none⟩,
  ⟨(some 188), .mv (.t 2), none, none, [], none⟩,
  ⟨(some 189), .mv (.t 24), none, none, [], none⟩,
  ⟨(some 190), .mv (.t 4), none, none, [], none⟩,
  ⟨(some 191), .icall 54 [(.t 186), (.t 187), (.t 188), (.t 189), (.t 190)], none, none, [], none⟩]
def ac_slices_symMergeCmpFunc_api_Found_99 : AC := .reg l_slices_symMergeCmpFunc_api_Found_99
def ac_slices_symMergeCmpFunc_api_Found_100 : AC := .cond (.t 185) ac_slices_symMergeCmpFunc_api_Found_99 .skip
def ac_slices_symMergeCmpFunc_api_Found_101 : AC := .seq ac_slices_symMergeCmpFunc_api_Found_98 ac_slices_symMergeCmpFunc_api_Found_100
def l_slices_symMergeCmpFunc_api_Found_102 : List AOp := [⟨(some 192), .mv (.t 1), none, none, [], none⟩,
  ⟨(some 193), .mv (.t 20), none, none, [], none⟩,
  ⟨(some 194), .bin .lss (.t 192) (.t 193), none, none, [], none⟩,
  ⟨(some 195), .mv (.t 194), none, none, [], none⟩,
  ⟨(some 196), .mv (.t 20), (some (195, true)), none, [], none⟩,
  ⟨(some 197), .mv (.t 18), (some (195, true)), none, [], none⟩,
  ⟨(some 198), .bin .lss (.t 196) (.t 197), (some (195, true)), none, [], none⟩,
  ⟨(some 199), .pick (.t 195) (.t 198) (.k (.bool false)), none, none, [], none⟩]
def ac_slices_symMergeCmpFunc_api_Found_102 : AC := .reg l_slices_symMergeCmpFunc_api_Found_102
def l_slices_symMergeCmpFunc_api_Found_103 : List AOp := [⟨(some 200), .mv (.t 0), none, none, [], none⟩,
  ⟨(some 201), .mv (.t 1), none, none, [], none⟩,
  ⟨(some 202), .mv (.t 20), none, none, [], none⟩,
  ⟨(some 203), .mv (.t 18), none, none, [], none⟩,
  ⟨(some 204), .mv (.t 4), none, none, [], none⟩,
  ⟨(some 205), .icall 52 [(.t 200), (.t 201), (.t 202), (.t 203), (.t 204)], none, none, [], none⟩]
def ac_slices_symMergeCmpFunc_api_Found_103 : AC := .reg l_slices_symMergeCmpFunc_api_Found_103
def ac_slices_symMergeCmpFunc_api_Found_104 : AC := .cond (.t 199) ac_slices_symMergeCmpFunc_api_Found_103 .skip
def ac_slices_symMergeCmpFunc_api_Found_105 : AC := .seq ac_slices_symMergeCmpFunc_api_Found_102 ac_slices_symMergeCmpFunc_api_Found_104
def l_slices_symMergeCmpFunc_api_Found_106 : List AOp := [⟨(some 206), .mv (.t 18), none, none, [], none⟩,
  ⟨(some 207), .mv (.t 24), none, none, [], none⟩,
  ⟨(some 208), .bin .lss (.t 206) (.t 207), none, none, [], none⟩,
  ⟨(some 209), .mv (.t 208), none, none, [], none⟩,
  ⟨(some 210), .mv (.t 24), (some (209, true)), none, [], none⟩,
  ⟨(some 211), .mv (.t 3), (some (209, true)), none, [], none⟩,
  ⟨(some 212), .bin .lss (.t 210) (.t 211), (some (209, true)), none, [], none⟩,
  ⟨(some 213), .pick (.t 209) (.t 212) (.k (.bool false)), none, none, [], none⟩]
def ac_slices_symMergeCmpFunc_api_Found_106 : AC := .reg l_slices_symMergeCmpFunc_api_Found_106
def l_slices_symMergeCmpFunc_api_Found_107 : List AOp := [⟨(some 214), .mv (.t 0), none, none, [], none⟩,
  ⟨(some 215), .mv (.t 18), none, none, [], none⟩,
  ⟨(some 216), .mv (.t 24), none, none, [], none⟩,
  ⟨(some 217), .mv (.t 3), none, none, [], none⟩,
  ⟨(some 218), .mv (.t 4), none, none, [], none⟩,
  ⟨(some 219), .icall 52 [(.t 214), (.t 215), (.t 216), (.t 217), (.t 218)], none, none, [], none⟩]
def ac_slices_symMergeCmpFunc_api_Found_107 : AC := .reg l_slices_symMergeCmpFunc_api_Found_107
def ac_slices_symMergeCmpFunc_api_Found_108 : AC := .cond (.t 213) ac_slices_symMergeCmpFunc_api_Found_107 .skip
def ac_slices_symMergeCmpFunc_api_Found_109 : AC := .seq ac_slices_symMergeCmpFunc_api_Found_106 ac_slices_symMergeCmpFunc_api_Found_108
def ac_slices_symMergeCmpFunc_api_Found_110 : AC := .seq ac_slices_symMergeCmpFunc_api_Found_105 ac_slices_symMergeCmpFunc_api_Found_109
def ac_slices_symMergeCmpFunc_api_Found_111 : AC := .seq ac_slices_symMergeCmpFunc_api_Found_101 ac_slices_symMergeCmpFunc_api_Found_110
def ac_slices_symMergeCmpFunc_api_Found_112 : AC := .seq ac_slices_symMergeCmpFunc_api_Found_97 ac_slices_symMergeCmpFunc_api_Found_111
def ac_slices_symMergeCmpFunc_api_Found_113 : AC := .seq ac_slices_symMergeCmpFunc_api_Found_96 ac_slices_symMergeCmpFunc_api_Found_112
def ac_slices_symMergeCmpFunc_api_Found_114 : AC := .seq ac_slices_symMergeCmpFunc_api_Found_82 ac_slices_symMergeCmpFunc_api_Found_113
def ac_slices_symMergeCmpFunc_api_Found_115 : AC := .seq ac_slices_symMergeCmpFunc_api_Found_81 ac_slices_symMergeCmpFunc_api_Found_114
def ac_slices_symMergeCmpFunc_api_Found_116 : AC := .seq ac_slices_symMergeCmpFunc_api_Found_72 ac_slices_symMergeCmpFunc_api_Found_115
def ac_slices_symMergeCmpFunc_api_Found_117 : AC := .seq ac_slices_symMergeCmpFunc_api_Found_71 ac_slices_symMergeCmpFunc_api_Found_116
def ac_slices_symMergeCmpFunc_api_Found_118 : AC := .seq ac_slices_symMergeCmpFunc_api_Found_70 ac_slices_symMergeCmpFunc_api_Found_117
def ac_slices_symMergeCmpFunc_api_Found_119 : AC := .seq ac_slices_symMergeCmpFunc_api_Found_69 ac_slices_symMergeCmpFunc_api_Found_118
def ac_slices_symMergeCmpFunc_api_Found_120 : AC := .seq ac_slices_symMergeCmpFunc_api_Found_34 ac_slices_symMergeCmpFunc_api_Found_119
def ac_slices_symMergeCmpFunc_api_Found : AC := ac_slices_symMergeCmpFunc_api_Found_120
theorem comp_slices_symMergeCmpFunc_api_Found : compF Try.prog [1000054, 1000052] (drawR Try.prog [1000054, 1000052] Try.f52.ntmps) [([0, 1, 4, 10, 11], 1000000000), ([0, 10, 13], 1000000000), ([0, 2, 4, 14, 15], 1000000000), ([0, 14, 17], 1000000000), ([0, 1, 2, 3, 4, 18, 19, 20, 21, 22], 1000000000)] 5 Try.f52 = some (ac_slices_symMergeCmpFunc_api_Found, []) := by kernel_rfl
def U_slices_symMergeCmpFunc_api_Found := (And.intro (And.intro (And.intro (And.intro (And.intro (And.intro (And.intro (And.intro @ac_slices_symMergeCmpFunc_api_Found.eq_1 (@mR _ _ ac_slices_symMergeCmpFunc_api_Found_0.eq_1)) (@mR _ _ ac_slices_symMergeCmpFunc_api_Found_1.eq_1)) (And.intro (And.intro (@mR _ _ ac_slices_symMergeCmpFunc_api_Found_2.eq_1) (@mR _ _ ac_slices_symMergeCmpFunc_api_Found_3.eq_1)) (@mU _ _ ac_slices_symMergeCmpFunc_api_Found_4.eq_1))) (And.intro (And.intro (And.intro (@mU _ _ ac_slices_symMergeCmpFunc_api_Found_5.eq_1) (@mR _ _ ac_slices_symMergeCmpFunc_api_Found_6.eq_1)) (@mD _ _ _ ac_slices_symMergeCmpFunc_api_Found_7.eq_1)) (And.intro (@mR _ _ ac_slices_symMergeCmpFunc_api_Found_8.eq_1) (@mR _ _ ac_slices_symMergeCmpFunc_api_Found_9.eq_1)))) (And.intro (And.intro (And.intro (And.intro (@mU _ _ ac_slices_symMergeCmpFunc_api_Found_10.eq_1) (@mU _ _ ac_slices_symMergeCmpFunc_api_Found_11.eq_1)) (@mU _ _ ac_slices_symMergeCmpFunc_api_Found_12.eq_1)) (And.intro (@mU _ _ ac_slices_symMergeCmpFunc_api_Found_13.eq_1) (@mU _ _ ac_slices_symMergeCmpFunc_api_Found_14.eq_1))) (And.intro (And.intro (And.intro (@mU _ _ ac_slices_symMergeCmpFunc_api_Found_15.eq_1) (@mU _ _ ac_slices_symMergeCmpFunc_api_Found_16.eq_1)) (@mR _ _ ac_slices_symMergeCmpFunc_api_Found_17.eq_1)) (And.intro (@mR _ _ ac_slices_symMergeCmpFunc_api_Found_18.eq_1) (@mU _ _ ac_slices_symMergeCmpFunc_api_Found_19.eq_1))))) (And.intro (And.intro (And.intro (And.intro (And.intro (@mU _ _ ac_slices_symMergeCmpFunc_api_Found_20.eq_1) (@mD _ _ _ ac_slices_symMergeCmpFunc_api_Found_21.eq_1)) (@mU _ _ ac_slices_symMergeCmpFunc_api_Found_22.eq_1)) (And.intro (And.intro (@mR _ _ ac_slices_symMergeCmpFunc_api_Found_23.eq_1) (@mU _ _ ac_slices_symMergeCmpFunc_api_Found_24.eq_1)) (@mU _ _ ac_slices_symMergeCmpFunc_api_Found_25.eq_1))) (And.intro (And.intro (And.intro (@mU _ _ ac_slices_symMergeCmpFunc_api_Found_26.eq_1) (@mU _ _ ac_slices_symMergeCmpFunc_api_Found_27.eq_1)) (@mU _ _ ac_slices_symMergeCmpFunc_api_Found_28.eq_1)) (And.intro (@mU _ _ ac_slices_symMergeCmpFunc_api_Found_29.eq_1) (@mU _ _ ac_slices_symMergeCmpFunc_api_Found_30.eq_1)))) (And.intro (And.intro (And.intro (And.intro (@mU _ _ ac_slices_symMergeCmpFunc_api_Found_31.eq_1) (@mU _ _ ac_slices_symMergeCmpFunc_api_Found_32.eq_1)) (@mU _ _ ac_slices_symMergeCmpFunc_api_Found_33.eq_1)) (And.intro (@mU _ _ ac_slices_symMergeCmpFunc_api_Found_34.eq_1) (@mR _ _ ac_slices_symMergeCmpFunc_api_Found_35.eq_1))) (And.intro (And.intro (And.intro (@mR _ _ ac_slices_symMergeCmpFunc_api_Found_36.eq_1) (@mR _ _ ac_slices_symMergeCmpFunc_api_Found_37.eq_1)) (@mR _ _ ac_slices_symMergeCmpFunc_api_Found_38.eq_1)) (And.intro (@mU _ _ ac_slices_symMergeCmpFunc_api_Found_39.eq_1) (@mU _ _ ac_slices_symMergeCmpFunc_api_Found_40.eq_1)))))) (And.intro (And.intro (And.intro (And.intro (And.intro (And.intro (@mR _ _ ac_slices_symMergeCmpFunc_api_Found_41.eq_1) (@mD _ _ _ ac_slices_symMergeCmpFunc_api_Found_42.eq_1)) (@mR _ _ ac_slices_symMergeCmpFunc_api_Found_43.eq_1)) (And.intro (And.intro (@mR _ _ ac_slices_symMergeCmpFunc_api_Found_44.eq_1) (@mU _ _ ac_slices_symMergeCmpFunc_api_Found_45.eq_1)) (@mU _ _ ac_slices_symMergeCmpFunc_api_Found_46.eq_1))) (And.intro (And.intro (And.intro (@mU _ _ ac_slices_symMergeCmpFunc_api_Found_47.eq_1) (@mU _ _ ac_slices_symMergeCmpFunc_api_Found_48.eq_1)) (@mU _ _ ac_slices_symMergeCmpFunc_api_Found_49.eq_1)) (And.intro (@mU _ _ ac_slices_symMergeCmpFunc_api_Found_50.eq_1) (@mU _ _ ac_slices_symMergeCmpFunc_api_Found_51.eq_1)))) (And.intro (And.intro (And.intro (And.intro (@mR _ _ ac_slices_symMergeCmpFunc_api_Found_52.eq_1) (@mR _ _ ac_slices_symMergeCmpFunc_api_Found_53.eq_1)) (@mU _ _ ac_slices_symMergeCmpFunc_api_Found_54.eq_1)) (And.intro (@mU _ _ ac_slices_symMergeCmpFunc_api_Found_55.eq_1) (@mD _ _ _ ac_slices_symMergeCmpFunc_api_Found_56.eq_1))) (And.intro (And.intro (And.intro (@mU _ _ ac_slices_symMergeCmpFunc_api_Found_57.eq_1) (@mR _ _ ac_slices_symMergeCmpFunc_api_Found_58.eq_1)) (@mU _ _ ac_slices_symMergeCmpFunc_api_Found_59.eq_1)) (And.intro (@mU _ _ ac_slices_symMergeCmpFunc_api_Found_60.eq_1) (@mU _ _ ac_slices_symMergeCmpFunc_api_Found_61.eq_1))))) (And.intro (And.intro (And.intro (And.intro (And.intro (@mU _ _ ac_slices_symMergeCmpFunc_api_Found_62.eq_1) (@mU _ _ ac_slices_symMergeCmpFunc_api_Found_63.eq_1)) (@mU _ _ ac_slices_symMergeCmpFunc_api_Found_64.eq_1)) (And.intro (And.intro (@mU _ _ ac_slices_symMergeCmpFunc_api_Found_65.eq_1) (@mU _ _ ac_slices_symMergeCmpFunc_api_Found_66.eq_1)) (@mU _ _ ac_slices_symMergeCmpFunc_api_Found_67.eq_1))) (And.intro (And.intro (And.intro (@mU _ _ ac_slices_symMergeCmpFunc_api_Found_68.eq_1) (@mU _ _ ac_slices_symMergeCmpFunc_api_Found_69.eq_1)) (@mR _ _ ac_slices_symMergeCmpFunc_api_Found_70.eq_1)) (And.intro (@mR _ _ ac_slices_symMergeCmpFunc_api_Found_71.eq_1) (@mR _ _ ac_slices_symMergeCmpFunc_api_Found_72.eq_1)))) (And.intro (And.intro (And.intro (And.intro (@mR _ _ ac_slices_symMergeCmpFunc_api_Found_73.eq_1) (@mR _ _ ac_slices_symMergeCmpFunc_api_Found_74.eq_1)) (@mR _ _ ac_slices_symMergeCmpFunc_api_Found_75.eq_1)) (And.intro (@mU _ _ ac_slices_symMergeCmpFunc_api_Found_76.eq_1) (@mR _ _ ac_slices_symMergeCmpFunc_api_Found_77.eq_1))) (And.intro (And.intro (And.intro (@mR _ _ ac_slices_symMergeCmpFunc_api_Found_78.eq_1) (@mU _ _ ac_slices_symMergeCmpFunc_api_Found_79.eq_1)) (@mU _ _ ac_slices_symMergeCmpFunc_api_Found_80.eq_1)) (And.intro (@mU _ _ ac_slices_symMergeCmpFunc_api_Found_81.eq_1) (@mR _ _ ac_slices_symMergeCmpFunc_api_Found_82.eq_1))))))) (And.intro (And.intro (And.intro (And.intro (And.intro (And.intro (And.intro (@mR _ _ ac_slices_symMergeCmpFunc_api_Found_83.eq_1) (@mU _ _ ac_slices_symMergeCmpFunc_api_Found_84.eq_1)) (@mU _ _ ac_slices_symMergeCmpFunc_api_Found_85.eq_1)) (And.intro (And.intro (@mR _ _ ac_slices_symMergeCmpFunc_api_Found_86.eq_1) (@mD _ _ _ ac_slices_symMergeCmpFunc_api_Found_87.eq_1)) (@mR _ _ ac_slices_symMergeCmpFunc_api_Found_88.eq_1))) (And.intro (And.intro (And.intro (@mR _ _ ac_slices_symMergeCmpFunc_api_Found_89.eq_1) (@mU _ _ ac_slices_symMergeCmpFunc_api_Found_90.eq_1)) (@mU _ _ ac_slices_symMergeCmpFunc_api_Found_91.eq_1)) (And.intro (@mU _ _ ac_slices_symMergeCmpFunc_api_Found_92.eq_1) (@mU _ _ ac_slices_symMergeCmpFunc_api_Found_93.eq_1)))) (And.intro (And.intro (And.intro (And.intro (@mU _ _ ac_slices_symMergeCmpFunc_api_Found_94.eq_1) (@mU _ _ ac_slices_symMergeCmpFunc_api_Found_95.eq_1)) (@mU _ _ ac_slices_symMergeCmpFunc_api_Found_96.eq_1)) (And.intro (@mR _ _ ac_slices_symMergeCmpFunc_api_Found_97.eq_1) (@mR _ _ ac_slices_symMergeCmpFunc_api_Found_98.eq_1))) (And.intro (And.intro (And.intro (@mR _ _ ac_slices_symMergeCmpFunc_api_Found_99.eq_1) (@mU _ _ ac_slices_symMergeCmpFunc_api_Found_100.eq_1)) (@mU _ _ ac_slices_symMergeCmpFunc_api_Found_101.eq_1)) (And.intro (@mR _ _ ac_slices_symMergeCmpFunc_api_Found_102.eq_1) (@mR _ _ ac_slices_symMergeCmpFunc_api_Found_103.eq_1))))) (And.intro (And.intro (And.intro (And.intro (And.intro (@mU _ _ ac_slices_symMergeCmpFunc_api_Found_104.eq_1) (@mU _ _ ac_slices_symMergeCmpFunc_api_Found_105.eq_1)) (@mR _ _ ac_slices_symMergeCmpFunc_api_Found_106.eq_1)) (And.intro (And.intro (@mR _ _ ac_slices_symMergeCmpFunc_api_Found_107.eq_1) (@mU _ _ ac_slices_symMergeCmpFunc_api_Found_108.eq_1)) (@mU _ _ ac_slices_symMergeCmpFunc_api_Found_109.eq_1))) (And.intro (And.intro (And.intro (@mU _ _ ac_slices_symMergeCmpFunc_api_Found_110.eq_1) (@mU _ _ ac_slices_symMergeCmpFunc_api_Found_111.eq_1)) (@mU _ _ ac_slices_symMergeCmpFunc_api_Found_112.eq_1)) (And.intro (@mU _ _ ac_slices_symMergeCmpFunc_api_Found_113.eq_1) (@mU _ _ ac_slices_symMergeCmpFunc_api_Found_114.eq_1)))) (And.intro (And.intro (And.intro (And.intro (@mU _ _ ac_slices_symMergeCmpFunc_api_Found_115.eq_1) (@mU _ _ ac_slices_symMergeCmpFunc_api_Found_116.eq_1)) (@mU _ _ ac_slices_symMergeCmpFunc_api_Found_117.eq_1)) (And.intro (@mU _ _ ac_slices_symMergeCmpFunc_api_Found_118.eq_1) (@mU _ _ ac_slices_symMergeCmpFunc_api_Found_119.eq_1))) (And.intro (And.intro (And.intro (@mU _ _ ac_slices_symMergeCmpFunc_api_Found_120.eq_1) @l_slices_symMergeCmpFunc_api_Found_0.eq_1) @l_slices_symMergeCmpFunc_api_Found_1.eq_1) (And.intro @l_slices_symMergeCmpFunc_api_Found_2.eq_1 @l_slices_symMergeCmpFunc_api_Found_3.eq_1))))) (And.intro (And.intro (And.intro (And.intro (And.intro (And.intro @l_slices_symMergeCmpFunc_api_Found_6.eq_1 @l_slices_symMergeCmpFunc_api_Found_7.eq_1) @l_slices_symMergeCmpFunc_api_Found_8.eq_1) (And.intro (And.intro @l_slices_symMergeCmpFunc_api_Found_9.eq_1 @l_slices_symMergeCmpFunc_api_Found_17.eq_1) @l_slices_symMergeCmpFunc_api_Found_18.eq_1)) (And.intro (And.intro (And.intro @l_slices_symMergeCmpFunc_api_Found_21.eq_1 @l_slices_symMergeCmpFunc_api_Found_23.eq_1) @l_slices_symMergeCmpFunc_api_Found_35.eq_1) (And.intro @l_slices_symMergeCmpFunc_api_Found_36.eq_1 @l_slices_symMergeCmpFunc_api_Found_37.eq_1))) (And.intro (And.intro (And.intro (And.intro @l_slices_symMergeCmpFunc_api_Found_38.eq_1 @l_slices_symMergeCmpFunc_api_Found_41.eq_1) @l_slices_symMergeCmpFunc_api_Found_42.eq_1) (And.intro @l_slices_symMergeCmpFunc_api_Found_43.eq_1 @l_slices_symMergeCmpFunc_api_Found_44.eq_1)) (And.intro (And.intro (And.intro @l_slices_symMergeCmpFunc_api_Found_52.eq_1 @l_slices_symMergeCmpFunc_api_Found_53.eq_1) @l_slices_symMergeCmpFunc_api_Found_56.eq_1) (And.intro @l_slices_symMergeCmpFunc_api_Found_58.eq_1 @l_slices_symMergeCmpFunc_api_Found_70.eq_1)))) (And.intro (And.intro (And.intro (And.intro (And.intro @l_slices_symMergeCmpFunc_api_Found_71.eq_1 @l_slices_symMergeCmpFunc_api_Found_72.eq_1) @l_slices_symMergeCmpFunc_api_Found_73.eq_1) (And.intro @l_slices_symMergeCmpFunc_api_Found_74.eq_1 @l_slices_symMergeCmpFunc_api_Found_75.eq_1)) (And.intro (And.intro (And.intro @l_slices_symMergeCmpFunc_api_Found_77.eq_1 @l_slices_symMergeCmpFunc_api_Found_78.eq_1) @l_slices_symMergeCmpFunc_api_Found_82.eq_1) (And.intro @l_slices_symMergeCmpFunc_api_Found_83.eq_1 @l_slices_symMergeCmpFunc_api_Found_86.eq_1))) (And.intro (And.intro (And.intro (And.intro @l_slices_symMergeCmpFunc_api_Found_87.eq_1 @l_slices_symMergeCmpFunc_api_Found_88.eq_1) @l_slices_symMergeCmpFunc_api_Found_89.eq_1) (And.intro @l_slices_symMergeCmpFunc_api_Found_97.eq_1 @l_slices_symMergeCmpFunc_api_Found_98.eq_1)) (And.intro (And.intro (And.intro @l_slices_symMergeCmpFunc_api_Found_99.eq_1 @l_slices_symMergeCmpFunc_api_Found_102.eq_1) @l_slices_symMergeCmpFunc_api_Found_103.eq_1) (And.intro @l_slices_symMergeCmpFunc_api_Found_106.eq_1 @l_slices_symMergeCmpFunc_api_Found_107.eq_1)))))))

/- slices.rotateCmpFunc[scoria/api.Found] -/
def l_slices_rotateCmpFunc_api_Found_0 : List AOp := [⟨(some 12), .mv (.t 2), none, none, [], none⟩,
  ⟨(some 13), .mv (.t 1), none, none, [], none⟩,
  ⟨(some 14), .bin .sub (.t 12) (.t 13), none, none, [], none⟩,
  ⟨(some 10), .mv (.t 14), none, none, [], none⟩]
def ac_slices_rotateCmpFunc_api_Found_0 : AC := .reg l_slices_rotateCmpFunc_api_Found_0
def l_slices_rotateCmpFunc_api_Found_1 : List AOp := [⟨(some 15), .mv (.t 3), none, none, [], none⟩,
  ⟨(some 16), .mv (.t 2), none, none, [], none⟩,
  ⟨(some 17), .bin .sub (.t 15) (.t 16), none, none, [], none⟩,
  ⟨(some 11), .mv (.t 17), none, none, [], none⟩]
def ac_slices_rotateCmpFunc_api_Found_1 : AC := .reg l_slices_rotateCmpFunc_api_Found_1
def l_slices_rotateCmpFunc_api_Found_2 : List AOp := [⟨(some 18), .mv (.t 10), none, none, [], none⟩,
  ⟨(some 19), .mv (.t 11), none, none, [], none⟩,
  ⟨(some 20), .bin .neq (.t 18) (.t 19), none, none, [], none⟩]
def ac_slices_rotateCmpFunc_api_Found_2 : AC := .reg l_slices_rotateCmpFunc_api_Found_2
def ac_slices_rotateCmpFunc_api_Found_3 : AC := .cond (.t 20) .skip (.exit 0)
def ac_slices_rotateCmpFunc_api_Found_4 : AC := .seq ac_slices_rotateCmpFunc_api_Found_2 ac_slices_rotateCmpFunc_api_Found_3
def l_slices_rotateCmpFunc_api_Found_5 : List AOp := [⟨(some 21), .mv (.t 10), none, none, [], none⟩,
  ⟨(some 22), .mv (.t 11), none, none, [], none⟩,
  ⟨(some 23), .bin .gtr (.t 21) (.t 22), none, none, [], none⟩]
def ac_slices_rotateCmpFunc_api_Found_5 : AC := .reg l_slices_rotateCmpFunc_api_Found_5
def l_slices_rotateCmpFunc_api_Found_6 : List AOp := [⟨(some 24), .mv (.t 0), none, none, [], none⟩,
  ⟨(some 25), .mv (.t 2), none, none, [], none⟩,
  ⟨(some 26), .mv (.t 10), none, none, [], none⟩,
  ⟨(some 27), .bin .sub (.t 25) (.t 26), none, none, [], none⟩,
  ⟨(some 28), .mv (.t 2), none, none, [], none⟩,
  ⟨(some 29), .mv (.t 11), none, none, [], none⟩,
  ⟨(some 30), .mv (.t 4), none, none, [], none⟩,
  ⟨(some 31), .icall 55 [(.t 24), (.t 27), (.t 28), (.t 29), (.t 30)], none, none, [], none⟩]
def ac_slices_rotateCmpFunc_api_Found_6 : AC := .reg l_slices_rotateCmpFunc_api_Found_6
def l_slices_rotateCmpFunc_api_Found_7 : List AOp := [⟨(some 32), .mv (.t 10), none, none, [], none⟩,
  ⟨(some 33), .mv (.t 11), none, none, [], none⟩,
  ⟨(some 34), .bin .sub (.t 32) (.t 33), none, none, [], none⟩,
  ⟨(some 10), .mv (.t 34), none, none, [], none⟩]
def ac_slices_rotateCmpFunc_api_Found_7 : AC := .reg l_slices_rotateCmpFunc_api_Found_7
def ac_slices_rotateCmpFunc_api_Found_8 : AC := .seq ac_slices_rotateCmpFunc_api_Found_6 ac_slices_rotateCmpFunc_api_Found_7
def l_slices_rotateCmpFunc_api_Found_9 : List AOp := [⟨(some 35), .mv (.t 0), none, none, [], none⟩,
  ⟨(some 36), .mv (.t 2), none, none, [], none⟩,
  ⟨(some 37), .mv (.t 10), none, none, [], none⟩,
  ⟨(some 38), .bin .sub (.t 36) (.t 37), none, none, [], none⟩,
  ⟨(some 39), .mv (.t 2), none, none, [], none⟩,
  ⟨(some 40), .mv (.t 11), none, none, [], none⟩,
  ⟨(some 41), .bin .add (.t 39) (.t 40), none, none, [], none⟩,
  ⟨(some 42), .mv (.t 10), none, none, [], none⟩,
  ⟨(some 43), .bin .sub (.t 41) (.t 42), none, none, [], none⟩,
  ⟨(some 44), .mv (.t 10), none, none, [], none⟩,
  ⟨(some 45), .mv (.t 4), none, none, [], none⟩,
  ⟨(some 46), .icall 55 [(.t 35), (.t 38), (.t 43), (.t 44), (.t 45)], none, none, [], none⟩]
def ac_slices_rotateCmpFunc_api_Found_9 : AC := .reg l_slices_rotateCmpFunc_api_Found_9
def l_slices_rotateCmpFunc_api_Found_10 : List AOp := [⟨(some 47), .mv (.t 11), none, none, [], none⟩,
  ⟨(some 48), .mv (.t 10), none, none, [], none⟩,
  ⟨(some 49), .bin .sub (.t 47) (.t 48), none, none, [], none⟩,
  ⟨(some 11), .mv (.t 49), none, none, [], none⟩]
def ac_slices_rotateCmpFunc_api_Found_10 : AC := .reg l_slices_rotateCmpFunc_api_Found_10
def ac_slices_rotateCmpFunc_api_Found_11 : AC := .seq ac_slices_rotateCmpFunc_api_Found_9 ac_slices_rotateCmpFunc_api_Found_10
def ac_slices_rotateCmpFunc_api_Found_12 : AC := .cond (.t 23) ac_slices_rotateCmpFunc_api_Found_8 ac_slices_rotateCmpFunc_api_Found_11
def ac_slices_rotateCmpFunc_api_Found_13 : AC := .seq ac_slices_rotateCmpFunc_api_Found_5 ac_slices_rotateCmpFunc_api_Found_12
def ac_slices_rotateCmpFunc_api_Found_14 : AC := .block 1 ac_slices_rotateCmpFunc_api_Found_13
def ac_slices_rotateCmpFunc_api_Found_15 : AC := .seq ac_slices_rotateCmpFunc_api_Found_4 ac_slices_rotateCmpFunc_api_Found_14
def ac_slices_rotateCmpFunc_api_Found_16 : AC := .loop [0, 2, 4, 10, 11] 1000000000 ac_slices_rotateCmpFunc_api_Found_15
def ac_slices_rotateCmpFunc_api_Found_17 : AC := .block 0 ac_slices_rotateCmpFunc_api_Found_16
def l_slices_rotateCmpFunc_api_Found_18 : List AOp := [⟨(some 50), .mv (.t 0), none, none, [], none⟩,
  ⟨(some 51), .mv (.t 2), none, none, [], none⟩,
  ⟨(some 52), .mv (.t 10), none, none, [], none⟩,
  ⟨(some 53), .bin .sub (.t 51) (.t 52), none, none, [], none⟩,
  ⟨(some 54), .mv (.t 2), none, none, [], none⟩,
  ⟨(some 55), .mv (.t 10), none, none, [], none⟩,
  ⟨(some 56), .mv (.t 4), none, none, [], none⟩,
  ⟨(some 57), .icall 55 [(.t 50), (.t 53), (.t 54), (.t 55), (.t 56)], none, none, [], none⟩]
def ac_slices_rotateCmpFunc_api_Found_18 : AC := .reg l_slices_rotateCmpFunc_api_Found_18
def ac_slices_rotateCmpFunc_api_Found_19 : AC := .seq ac_slices_rotateCmpFunc_api_Found_17 ac_slices_rotateCmpFunc_api_Found_18
def ac_slices_rotateCmpFunc_api_Found_20 : AC := .seq ac_slices_rotateCmpFunc_api_Found_1 ac_slices_rotateCmpFunc_api_Found_19
def ac_slices_rotateCmpFunc_api_Found_21 : AC := .seq ac_slices_rotateCmpFunc_api_Found_0 ac_slices_rotateCmpFunc_api_Found_20
def ac_slices_rotateCmpFunc_api_Found : AC := ac_slices_rotateCmpFunc_api_Found_21
theorem comp_slices_rotateCmpFunc_api_Found : compF Try.prog [1000055] (drawR Try.prog [1000055] Try.f54.ntmps) [([0, 2, 4, 10, 11], 1000000000)] 5 Try.f54 = some (ac_slices_rotateCmpFunc_api_Found, []) := by kernel_rfl
def U_slices_rotateCmpFunc_api_Found := (And.intro (And.intro (And.intro (And.intro (And.intro @ac_slices_rotateCmpFunc_api_Found.eq_1 (@mR _ _ ac_slices_rotateCmpFunc_api_Found_0.eq_1)) (And.intro (@mR _ _ ac_slices_rotateCmpFunc_api_Found_1.eq_1) (@mR _ _ ac_slices_rotateCmpFunc_api_Found_2.eq_1))) (And.intro (And.intro (@mU _ _ ac_slices_rotateCmpFunc_api_Found_3.eq_1) (@mU _ _ ac_slices_rotateCmpFunc_api_Found_4.eq_1)) (And.intro (@mR _ _ ac_slices_rotateCmpFunc_api_Found_5.eq_1) (@mR _ _ ac_slices_rotateCmpFunc_api_Found_6.eq_1)))) (And.intro (And.intro (And.intro (@mR _ _ ac_slices_rotateCmpFunc_api_Found_7.eq_1) (@mU _ _ ac_slices_rotateCmpFunc_api_Found_8.eq_1)) (And.intro (@mR _ _ ac_slices_rotateCmpFunc_api_Found_9.eq_1) (@mR _ _ ac_slices_rotateCmpFunc_api_Found_10.eq_1))) (And.intro (And.intro (@mU _ _ ac_slices_rotateCmpFunc_api_Found_11.eq_1) (@mU _ _ ac_slices_rotateCmpFunc_api_Found_12.eq_1)) (And.intro (@mU _ _ ac_slices_rotateCmpFunc_api_Found_13.eq_1) (@mU _ _ ac_slices_rotateCmpFunc_api_Found_14.eq_1))))) (And.intro (And.intro (And.intro (And.intro (@mU _ _ ac_slices_rotateCmpFunc_api_Found_15.eq_1) (@mU _ _ ac_slices_rotateCmpFunc_api_Found_16.eq_1)) (And.intro (@mU _ _ ac_slices_rotateCmpFunc_api_Found_17.eq_1) (@mR _ _ ac_slices_rotateCmpFunc_api_Found_18.eq_1))) (And.intro (And.intro (@mU _ _ ac_slices_rotateCmpFunc_api_Found_19.eq_1) (@mU _ _ ac_slices_rotateCmpFunc_api_Found_20.eq_1)) (And.intro (@mU _ _ ac_slices_rotateCmpFunc_api_Found_21.eq_1) @l_slices_rotateCmpFunc_api_Found_0.eq_1))) (And.intro (And.intro (And.intro @l_slices_rotateCmpFunc_api_Found_1.eq_1 @l_slices_rotateCmpFunc_api_Found_2.eq_1) (And.intro @l_slices_rotateCmpFunc_api_Found_5.eq_1 @l_slices_rotateCmpFunc_api_Found_6.eq_1)) (And.intro (And.intro @l_slices_rotateCmpFunc_api_Found_7.eq_1 @l_slices_rotateCmpFunc_api_Found_9.eq_1) (And.intro @l_slices_rotateCmpFunc_api_Found_10.eq_1 @l_slices_rotateCmpFunc_api_Found_18.eq_1)))))

/- slices.swapRangeCmpFunc[scoria/api.Found] -/
def l_slices_swapRangeCmpFunc_api_Found_0 : List AOp := [⟨(some 10), .mv (.k (.int .i64 0)), none, none, [], none⟩]
def ac_slices_swapRangeCmpFunc_api_Found_0 : AC := .reg l_slices_swapRangeCmpFunc_api_Found_0
def l_slices_swapRangeCmpFunc_api_Found_1 : List AOp := [⟨(some 11), .mv (.t 10), none, none, [], none⟩,
  ⟨(some 12), .mv (.t 3), none, none, [], none⟩,
  ⟨(some 13), .bin .lss (.t 11) (.t 12), none, none, [], none⟩]
def ac_slices_swapRangeCmpFunc_api_Found_1 : AC := .reg l_slices_swapRangeCmpFunc_api_Found_1
def ac_slices_swapRangeCmpFunc_api_Found_2 : AC := .cond (.t 13) .skip (.exit 0)
def ac_slices_swapRangeCmpFunc_api_Found_3 : AC := .seq ac_slices_swapRangeCmpFunc_api_Found_1 ac_slices_swapRangeCmpFunc_api_Found_2
def l_slices_swapRangeCmpFunc_api_Found_4 : List AOp := [⟨(some 16), .mv (.t 0), none, none, [], none⟩,
  ⟨(some 17), .mv (.t 1), none, none, [], none⟩,
  ⟨(some 18), .mv (.t 10), none, none, [], none⟩,
  ⟨(some 19), .bin .add (.t 17) (.t 18), none, none, [], none⟩,
  ⟨(some 20), .mv (.t 0), none, none, [], none⟩,
  ⟨(some 21), .mv (.t 2), none, none, [], none⟩,
  ⟨(some 22), .mv (.t 10), none, none, [], none⟩,
  ⟨(some 23), .bin .add (.t 21) (.t 22), none, none, [], none⟩,
  ⟨(some 24), .mv (.t 0), none, none, [], none⟩,
  ⟨(some 25), .mv (.t 2), none, none, [], none⟩,
  ⟨(some 26), .mv (.t 10), none, none, [], none⟩,
  ⟨(some 27), .bin .add (.t 25) (.t 26), none, none, [], none⟩,
  ⟨(some 28), .isl 6 (.t 24) (.t 27), none, none, [], none⟩,
  ⟨(some 29), .load (some 6) (.t 28), none, none, [], none⟩,
  ⟨(some 30), .mv (.t 0), none, none, [], none⟩,
  ⟨(some 31), .mv (.t 1), none, none, [], none⟩,
  ⟨(some 32), .mv (.t 10), none, none, [], none⟩,
  ⟨(some 33), .bin .add (.t 31) (.t 32), none, none, [], none⟩,
  ⟨(some 34), .isl 6 (.t 30) (.t 33), none, none, [], none⟩,
  ⟨(some 35), .load (some 6) (.t 34), none, none, [], none⟩,
  ⟨(some 36), .isl 6 (.t 16) (.t 19), none, none, [], none⟩,
  ⟨none, .store 6 (.t 36) (.t 29), none, none, [], none⟩,
  ⟨(some 37), .isl 6 (.t 20) (.t 23), none, none, [], none⟩,
  ⟨none, .store 6 (.t 37) (.t 35), none, none, [], none⟩]
def ac_slices_swapRangeCmpFunc_api_Found_4 : AC := .dreg 0 l_slices_swapRangeCmpFunc_api_Found_4
def ac_slices_swapRangeCmpFunc_api_Found_5 : AC := .block 1 ac_slices_swapRangeCmpFunc_api_Found_4
def l_slices_swapRangeCmpFunc_api_Found_6 : List AOp := [⟨(some 14), .mv (.t 10), none, none, [], none⟩,
  ⟨(some 15), .bin .add (.t 14) (.k (.int .i64 1)), none, none, [], none⟩,
  ⟨(some 10), .mv (.t 15), none, none, [], none⟩]
def ac_slices_swapRangeCmpFunc_api_Found_6 : AC := .reg l_slices_swapRangeCmpFunc_api_Found_6
def ac_slices_swapRangeCmpFunc_api_Found_7 : AC := .seq ac_slices_swapRangeCmpFunc_api_Found_5 ac_slices_swapRangeCmpFunc_api_Found_6
def ac_slices_swapRangeCmpFunc_api_Found_8 : AC := .seq ac_slices_swapRangeCmpFunc_api_Found_3 ac_slices_swapRangeCmpFunc_api_Found_7
def ac_slices_swapRangeCmpFunc_api_Found_9 : AC := .loop [0, 1, 2, 3, 10] 1000000000 ac_slices_swapRangeCmpFunc_api_Found_8
def ac_slices_swapRangeCmpFunc_api_Found_10 : AC := .block 0 ac_slices_swapRangeCmpFunc_api_Found_9
def ac_slices_swapRangeCmpFunc_api_Found_11 : AC := .seq ac_slices_swapRangeCmpFunc_api_Found_0 ac_slices_swapRangeCmpFunc_api_Found_10
def ac_slices_swapRangeCmpFunc_api_Found : AC := ac_slices_swapRangeCmpFunc_api_Found_11
theorem comp_slices_swapRangeCmpFunc_api_Found : compF Try.prog [] (drawR Try.prog [] Try.f55.ntmps) [([0, 1, 2, 3, 10], 1000000000)] 5 Try.f55 = some (ac_slices_swapRangeCmpFunc_api_Found, []) := by kernel_rfl
def U_slices_swapRangeCmpFunc_api_Found := (And.intro (And.intro (And.intro (And.intro (And.intro @ac_slices_swapRangeCmpFunc_api_Found.eq_1 (@mR _ _ ac_slices_swapRangeCmpFunc_api_Found_0.eq_1)) (@mR _ _ ac_slices_swapRangeCmpFunc_api_Found_1.eq_1)) (And.intro (@mU _ _ ac_slices_swapRangeCmpFunc_api_Found_2.eq_1) (@mU _ _ ac_slices_swapRangeCmpFunc_api_Found_3.eq_1))) (And.intro (And.intro (@mD _ _ _ ac_slices_swapRangeCmpFunc_api_Found_4.eq_1) (@mU _ _ ac_slices_swapRangeCmpFunc_api_Found_5.eq_1)) (And.intro (@mR _ _ ac_slices_swapRangeCmpFunc_api_Found_6.eq_1) (@mU _ _ ac_slices_swapRangeCmpFunc_api_Found_7.eq_1)))) (And.intro (And.intro (And.intro (@mU _ _ ac_slices_swapRangeCmpFunc_api_Found_8.eq_1) (@mU _ _ ac_slices_swapRangeCmpFunc_api_Found_9.eq_1)) (And.intro (@mU _ _ ac_slices_swapRangeCmpFunc_api_Found_10.eq_1) (@mU _ _ ac_slices_swapRangeCmpFunc_api_Found_11.eq_1))) (And.intro (And.intro @l_slices_swapRangeCmpFunc_api_Found_0.eq_1 @l_slices_swapRangeCmpFunc_api_Found_1.eq_1) (And.intro @l_slices_swapRangeCmpFunc_api_Found_4.eq_1 @l_slices_swapRangeCmpFunc_api_Found_6.eq_1))))

end Go.Proofs.Ytklniadgdbjcpaa.Aw
