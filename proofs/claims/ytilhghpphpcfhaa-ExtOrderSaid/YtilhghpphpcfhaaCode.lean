/-
  The functions of the seat, translated to abstract code. Written by a program (wip/Gen2.lean).
-/
import Derived.Test.YtilhghpphpcfhaaAwBun
import Derived.Test.YtilhghpphpcfhaaProg
set_option maxRecDepth 100000
set_option linter.all false
namespace Go.Proofs.Ytilhghpphpcfhaa.Aw
open Go.RowKit
/- scoria/scorialaw07.Refs -/
def l_law07_Refs_0 : List AOp := [⟨(some 2), .mv (.k (.slc [])), none, none, [], none⟩]
def ac_law07_Refs_0 : AC := .reg l_law07_Refs_0
def l_law07_Refs_1 : List AOp := [⟨(some 3), .nilown 4, none, none, [], none⟩]
def ac_law07_Refs_1 : AC := .reg l_law07_Refs_1
def l_law07_Refs_2 : List AOp := [⟨(some 4), .mv (.k (.int .i64 0)), none, none, [], none⟩]
def ac_law07_Refs_2 : AC := .reg l_law07_Refs_2
def l_law07_Refs_3 : List AOp := [⟨(some 5), .mv (.t 4), none, none, [], none⟩,
  ⟨(some 6), .mv (.t 0), none, none, [], none⟩,
  ⟨(some 7), .len (.t 6), none, none, [], none⟩,
  ⟨(some 8), .bin .lss (.t 5) (.t 7), none, none, [], none⟩]
def ac_law07_Refs_3 : AC := .reg l_law07_Refs_3
def ac_law07_Refs_4 : AC := .cond (.t 8) .skip (.exit 0)
def ac_law07_Refs_5 : AC := .seq ac_law07_Refs_3 ac_law07_Refs_4
def l_law07_Refs_6 : List AOp := [⟨(some 11), .mv (.t 3), none, none, [], none⟩,
  ⟨(some 12), .mv (.t 0), none, none, [], none⟩,
  ⟨(some 13), .mv (.t 4), none, none, [], none⟩,
  ⟨(some 14), .isl 4 (.t 12) (.t 13), none, none, [], none⟩,
  ⟨(some 15), .load (some 4) (.t 14), none, none, [], none⟩,
  ⟨(some 16), .blds false [(.int .i64 0), (.int .i64 0), (.int .i64 0), (.int .i64 0)] 1 [(0, (.t 15))], none, none, [], none⟩,
  ⟨(some 17), .app 4 32 [(.int .i64 0), (.int .i64 0), (.int .i64 0), (.int .i64 0)] (.t 11) (.t 16), none, none, [], none⟩,
  ⟨(some 3), .mv (.t 17), none, none, [], none⟩]
def ac_law07_Refs_6 : AC := .reg l_law07_Refs_6
def ac_law07_Refs_7 : AC := .block 1 ac_law07_Refs_6
def l_law07_Refs_8 : List AOp := [⟨(some 9), .mv (.t 4), none, none, [], none⟩,
  ⟨(some 10), .bin .add (.t 9) (.k (.int .i64 1)), none, none, [], none⟩,
  ⟨(some 4), .mv (.t 10), none, none, [], none⟩]
def ac_law07_Refs_8 : AC := .reg l_law07_Refs_8
def ac_law07_Refs_9 : AC := .seq ac_law07_Refs_7 ac_law07_Refs_8
def ac_law07_Refs_10 : AC := .seq ac_law07_Refs_5 ac_law07_Refs_9
def ac_law07_Refs_11 : AC := .loop [0, 3, 4] 1 ac_law07_Refs_10
def ac_law07_Refs_12 : AC := .block 0 ac_law07_Refs_11
def ac_law07_Refs_13 : AC := .seq ac_law07_Refs_2 ac_law07_Refs_12
def l_law07_Refs_14 : List AOp := [⟨(some 18), .mv (.t 3), none, none, [], none⟩,
  ⟨(some 2), .mv (.t 18), none, none, [], none⟩]
def ac_law07_Refs_14 : AC := .reg l_law07_Refs_14
def ac_law07_Refs_15 : AC := .seq ac_law07_Refs_14 .ret
def ac_law07_Refs_16 : AC := .seq ac_law07_Refs_13 ac_law07_Refs_15
def ac_law07_Refs_17 : AC := .seq ac_law07_Refs_1 ac_law07_Refs_16
def ac_law07_Refs_18 : AC := .seq ac_law07_Refs_0 ac_law07_Refs_17
def ac_law07_Refs : AC := ac_law07_Refs_18
theorem comp_law07_Refs : compF Try.prog [3] (drawR Try.prog [3] Try.f15.ntmps) [([0, 3, 4], 1)] 1 Try.f15 = some (ac_law07_Refs, [.t 2]) := by kernel_rfl
def U_law07_Refs := (And.intro (And.intro (And.intro (And.intro (And.intro @ac_law07_Refs.eq_1 (@mR _ _ ac_law07_Refs_0.eq_1)) (And.intro (@mR _ _ ac_law07_Refs_1.eq_1) (@mR _ _ ac_law07_Refs_2.eq_1))) (And.intro (And.intro (@mR _ _ ac_law07_Refs_3.eq_1) (@mU _ _ ac_law07_Refs_4.eq_1)) (@mU _ _ ac_law07_Refs_5.eq_1))) (And.intro (And.intro (And.intro (@mR _ _ ac_law07_Refs_6.eq_1) (@mU _ _ ac_law07_Refs_7.eq_1)) (And.intro (@mR _ _ ac_law07_Refs_8.eq_1) (@mU _ _ ac_law07_Refs_9.eq_1))) (And.intro (And.intro (@mU _ _ ac_law07_Refs_10.eq_1) (@mU _ _ ac_law07_Refs_11.eq_1)) (@mU _ _ ac_law07_Refs_12.eq_1)))) (And.intro (And.intro (And.intro (And.intro (@mU _ _ ac_law07_Refs_13.eq_1) (@mR _ _ ac_law07_Refs_14.eq_1)) (And.intro (@mU _ _ ac_law07_Refs_15.eq_1) (@mU _ _ ac_law07_Refs_16.eq_1))) (And.intro (And.intro (@mU _ _ ac_law07_Refs_17.eq_1) (@mU _ _ ac_law07_Refs_18.eq_1)) @l_law07_Refs_0.eq_1)) (And.intro (And.intro (And.intro @l_law07_Refs_1.eq_1 @l_law07_Refs_2.eq_1) @l_law07_Refs_3.eq_1) (And.intro (And.intro @l_law07_Refs_6.eq_1 @l_law07_Refs_8.eq_1) @l_law07_Refs_14.eq_1))))

/- scoria/ext.Cut -/
def l_ext_Cut_0 : List AOp := [⟨(some 6), .mv (.k (.slc [])), none, none, [], none⟩,
  ⟨(some 7), .mv (.k (.int .i64 0)), none, none, [], none⟩]
def ac_ext_Cut_0 : AC := .reg l_ext_Cut_0
def l_ext_Cut_1 : List AOp := [⟨(some 8), .mv (.t 0), none, none, [], none⟩,
  ⟨(some 9), .call false 27 [(.t 8)], none, none, [], none⟩,
  ⟨(some 10), .un .not (.t 9), none, none, [], none⟩,
  ⟨(some 11), .mv (.t 10), none, none, [], none⟩,
  ⟨(some 12), .mv (.t 1), (some (11, false)), none, [], none⟩,
  ⟨(some 13), .mv (.t 2), (some (11, false)), none, [], none⟩,
  ⟨(some 14), .call false 33 [(.t 12), (.t 13)], (some (11, false)), none, [], none⟩,
  ⟨(some 15), .un .not (.t 14), (some (11, false)), none, [], none⟩,
  ⟨(some 16), .pick (.t 11) (.k (.bool true)) (.t 15), none, none, [], none⟩]
def ac_ext_Cut_1 : AC := .reg l_ext_Cut_1
def l_ext_Cut_2 : List AOp := [⟨(some 6), .mv (.k (.slc [])), none, none, [], none⟩,
  ⟨(some 7), .mv (.k (.int .i64 1)), none, none, [], none⟩]
def ac_ext_Cut_2 : AC := .reg l_ext_Cut_2
def ac_ext_Cut_3 : AC := .seq ac_ext_Cut_2 .ret
def ac_ext_Cut_4 : AC := .cond (.t 16) ac_ext_Cut_3 .skip
def ac_ext_Cut_5 : AC := .seq ac_ext_Cut_1 ac_ext_Cut_4
def l_ext_Cut_6 : List AOp := [⟨(some 17), .mv (.t 0), none, none, [], none⟩,
  ⟨(some 18), .mv (.t 1), none, none, [], none⟩,
  ⟨(some 19), .call false 36 [(.t 17), (.k (.int .i64 0)), (.t 18)], none, none, [], none⟩,
  ⟨(some 20), .mv (.t 0), none, none, [], none⟩,
  ⟨(some 21), .mv (.t 1), none, none, [], none⟩,
  ⟨(some 22), .mv (.t 2), none, none, [], none⟩,
  ⟨(some 23), .bin .add (.t 21) (.t 22), none, none, [], none⟩,
  ⟨(some 24), .call false 36 [(.t 20), (.t 23), (.k (.int .i64 16777216))], none, none, [], none⟩,
  ⟨(some 25), .blds false [(.slc [])] 2 [(0, (.t 19)), (1, (.t 24))], none, none, [], none⟩,
  ⟨(some 26), .call false 35 [(.t 25)], none, none, [], none⟩,
  ⟨(some 27), .call false 34 [(.t 26)], none, none, [], none⟩,
  ⟨(some 6), .mv (.t 27), none, none, [], none⟩,
  ⟨(some 7), .mv (.k (.int .i64 0)), none, none, [], none⟩]
def ac_ext_Cut_6 : AC := .reg l_ext_Cut_6
def ac_ext_Cut_7 : AC := .seq ac_ext_Cut_6 .ret
def ac_ext_Cut_8 : AC := .seq ac_ext_Cut_5 ac_ext_Cut_7
def ac_ext_Cut_9 : AC := .seq ac_ext_Cut_0 ac_ext_Cut_8
def ac_ext_Cut : AC := ac_ext_Cut_9
theorem comp_ext_Cut : compF Try.prog [] (drawR Try.prog [] Try.f16.ntmps) [] 3 Try.f16 = some (ac_ext_Cut, [.t 6, .t 7]) := by kernel_rfl
def U_ext_Cut := (And.intro (And.intro (And.intro (And.intro @ac_ext_Cut.eq_1 (@mR _ _ ac_ext_Cut_0.eq_1)) (And.intro (@mR _ _ ac_ext_Cut_1.eq_1) (@mR _ _ ac_ext_Cut_2.eq_1))) (And.intro (And.intro (@mU _ _ ac_ext_Cut_3.eq_1) (@mU _ _ ac_ext_Cut_4.eq_1)) (And.intro (@mU _ _ ac_ext_Cut_5.eq_1) (@mR _ _ ac_ext_Cut_6.eq_1)))) (And.intro (And.intro (And.intro (@mU _ _ ac_ext_Cut_7.eq_1) (@mU _ _ ac_ext_Cut_8.eq_1)) (And.intro (@mU _ _ ac_ext_Cut_9.eq_1) @l_ext_Cut_0.eq_1)) (And.intro (And.intro @l_ext_Cut_1.eq_1 @l_ext_Cut_2.eq_1) @l_ext_Cut_6.eq_1)))

/- scoria/scoriaref07.Check -/
def l_ref07_Check_0 : List AOp := [⟨(some 2), .mv (.k (.bool false)), none, none, [], none⟩]
def ac_ref07_Check_0 : AC := .reg l_ref07_Check_0
def l_ref07_Check_1 : List AOp := [⟨(some 3), .mv (.k (.int .i64 0)), none, none, [], none⟩]
def ac_ref07_Check_1 : AC := .reg l_ref07_Check_1
def l_ref07_Check_2 : List AOp := [⟨(some 4), .mv (.t 3), none, none, [], none⟩,
  ⟨(some 5), .mv (.t 0), none, none, [], none⟩,
  ⟨(some 6), .len (.t 5), none, none, [], none⟩,
  ⟨(some 7), .bin .lss (.t 4) (.t 6), none, none, [], none⟩]
def ac_ref07_Check_2 : AC := .reg l_ref07_Check_2
def ac_ref07_Check_3 : AC := .cond (.t 7) .skip (.exit 0)
def ac_ref07_Check_4 : AC := .seq ac_ref07_Check_2 ac_ref07_Check_3
def l_ref07_Check_5 : List AOp := [⟨(some 10), .mv (.t 0), none, none, [], none⟩,
  ⟨(some 11), .mv (.t 3), none, none, [], none⟩,
  ⟨(some 12), .isl 4 (.t 10) (.t 11), none, none, [], none⟩,
  ⟨(some 13), .load (some 4) (.t 12), none, none, [], none⟩,
  ⟨(some 14), .call false 21 [(.t 13)], none, none, [], none⟩,
  ⟨(some 15), .un .not (.t 14), none, none, [], none⟩]
def ac_ref07_Check_5 : AC := .reg l_ref07_Check_5
def l_ref07_Check_6 : List AOp := [⟨(some 2), .mv (.k (.bool false)), none, none, [], none⟩]
def ac_ref07_Check_6 : AC := .reg l_ref07_Check_6
def ac_ref07_Check_7 : AC := .seq ac_ref07_Check_6 .ret
def ac_ref07_Check_8 : AC := .cond (.t 15) ac_ref07_Check_7 .skip
def ac_ref07_Check_9 : AC := .seq ac_ref07_Check_5 ac_ref07_Check_8
def l_ref07_Check_10 : List AOp := [⟨(some 16), .mv (.t 3), none, none, [], none⟩,
  ⟨(some 17), .bin .gtr (.t 16) (.k (.int .i64 0)), none, none, [], none⟩,
  ⟨(some 18), .mv (.t 17), none, none, [], none⟩,
  ⟨(some 19), .mv (.t 0), (some (18, true)), none, [], none⟩,
  ⟨(some 20), .mv (.t 3), (some (18, true)), none, [], none⟩,
  ⟨(some 21), .isl 4 (.t 19) (.t 20), (some (18, true)), none, [], none⟩,
  ⟨(some 22), .faddr 0 (.t 21), (some (18, true)), none, [], none⟩,
  ⟨(some 23), .load none (.t 22), (some (18, true)), none, [], none⟩,
  ⟨(some 24), .mv (.t 0), (some (18, true)), none, [], none⟩,
  ⟨(some 25), .mv (.t 3), (some (18, true)), none, [], none⟩,
  ⟨(some 26), .bin .sub (.t 25) (.k (.int .i64 1)), (some (18, true)), none, [], none⟩,
  ⟨(some 27), .isl 4 (.t 24) (.t 26), (some (18, true)), none, [], none⟩,
  ⟨(some 28), .faddr 0 (.t 27), (some (18, true)), none, [], none⟩,
  ⟨(some 29), .load none (.t 28), (some (18, true)), none, [], none⟩,
  ⟨(some 30), .mv (.t 0), (some (18, true)), none, [], none⟩,
  ⟨(some 31), .mv (.t 3), (some (18, true)), none, [], none⟩,
  ⟨(some 32), .bin .sub (.t 31) (.k (.int .i64 1)), (some (18, true)), none, [], none⟩,
  ⟨(some 33), .isl 4 (.t 30) (.t 32), (some (18, true)), none, [], none⟩,
  ⟨(some 34), .faddr 1 (.t 33), (some (18, true)), none, [], none⟩,
  ⟨(some 35), .load none (.t 34), (some (18, true)), none, [], none⟩,
  ⟨(some 36), .bin .add (.t 29) (.t 35), (some (18, true)), none, [], none⟩,
  ⟨(some 37), .bin .lss (.t 23) (.t 36), (some (18, true)), none, [], none⟩,
  ⟨(some 38), .mv (.t 37), (some (18, true)), none, [], none⟩,
  ⟨(some 39), .mv (.t 0), (some (38, false)), none, [], none⟩,
  ⟨(some 40), .mv (.t 3), (some (38, false)), none, [], none⟩,
  ⟨(some 41), .bin .sub (.t 40) (.k (.int .i64 1)), (some (38, false)), none, [], none⟩,
  ⟨(some 42), .isl 4 (.t 39) (.t 41), (some (38, false)), none, [], none⟩,
  ⟨(some 43), .load (some 4) (.t 42), (some (38, false)), none, [], none⟩,
  ⟨(some 44), .mv (.t 0), (some (38, false)), none, [], none⟩,
  ⟨(some 45), .mv (.t 3), (some (38, false)), none, [], none⟩,
  ⟨(some 46), .isl 4 (.t 44) (.t 45), (some (38, false)), none, [], none⟩,
  ⟨(some 47), .load (some 4) (.t 46), (some (38, false)), none, [], none⟩,
  ⟨(some 48), .call false 37 [(.t 43), (.t 47)], (some (38, false)), none, [], none⟩,
  ⟨(some 49), .pick (.t 38) (.k (.bool true)) (.t 48), (some (18, true)), none, [], none⟩,
  ⟨(some 50), .pick (.t 18) (.t 49) (.k (.bool false)), none, none, [], none⟩]
def ac_ref07_Check_10 : AC := .dreg 0 l_ref07_Check_10
def l_ref07_Check_11 : List AOp := [⟨(some 2), .mv (.k (.bool false)), none, none, [], none⟩]
def ac_ref07_Check_11 : AC := .reg l_ref07_Check_11
def ac_ref07_Check_12 : AC := .seq ac_ref07_Check_11 .ret
def ac_ref07_Check_13 : AC := .cond (.t 50) ac_ref07_Check_12 .skip
def ac_ref07_Check_14 : AC := .seq ac_ref07_Check_10 ac_ref07_Check_13
def ac_ref07_Check_15 : AC := .seq ac_ref07_Check_9 ac_ref07_Check_14
def ac_ref07_Check_16 : AC := .block 1 ac_ref07_Check_15
def l_ref07_Check_17 : List AOp := [⟨(some 8), .mv (.t 3), none, none, [], none⟩,
  ⟨(some 9), .bin .add (.t 8) (.k (.int .i64 1)), none, none, [], none⟩,
  ⟨(some 3), .mv (.t 9), none, none, [], none⟩]
def ac_ref07_Check_17 : AC := .reg l_ref07_Check_17
def ac_ref07_Check_18 : AC := .seq ac_ref07_Check_16 ac_ref07_Check_17
def ac_ref07_Check_19 : AC := .seq ac_ref07_Check_4 ac_ref07_Check_18
def ac_ref07_Check_20 : AC := .loop [0, 3] 0 ac_ref07_Check_19
def ac_ref07_Check_21 : AC := .block 0 ac_ref07_Check_20
def ac_ref07_Check_22 : AC := .seq ac_ref07_Check_1 ac_ref07_Check_21
def l_ref07_Check_23 : List AOp := [⟨(some 2), .mv (.k (.bool true)), none, none, [], none⟩]
def ac_ref07_Check_23 : AC := .reg l_ref07_Check_23
def ac_ref07_Check_24 : AC := .seq ac_ref07_Check_23 .ret
def ac_ref07_Check_25 : AC := .seq ac_ref07_Check_22 ac_ref07_Check_24
def ac_ref07_Check_26 : AC := .seq ac_ref07_Check_0 ac_ref07_Check_25
def ac_ref07_Check : AC := ac_ref07_Check_26
theorem comp_ref07_Check : compF Try.prog [] (drawR Try.prog [] Try.f17.ntmps) [([0, 3], 0)] 1 Try.f17 = some (ac_ref07_Check, [.t 2]) := by kernel_rfl
def U_ref07_Check := (And.intro (And.intro (And.intro (And.intro (And.intro (And.intro @ac_ref07_Check.eq_1 (@mR _ _ ac_ref07_Check_0.eq_1)) (@mR _ _ ac_ref07_Check_1.eq_1)) (And.intro (@mR _ _ ac_ref07_Check_2.eq_1) (@mU _ _ ac_ref07_Check_3.eq_1))) (And.intro (And.intro (And.intro (@mU _ _ ac_ref07_Check_4.eq_1) (@mR _ _ ac_ref07_Check_5.eq_1)) (@mR _ _ ac_ref07_Check_6.eq_1)) (And.intro (@mU _ _ ac_ref07_Check_7.eq_1) (@mU _ _ ac_ref07_Check_8.eq_1)))) (And.intro (And.intro (And.intro (And.intro (@mU _ _ ac_ref07_Check_9.eq_1) (@mD _ _ _ ac_ref07_Check_10.eq_1)) (@mR _ _ ac_ref07_Check_11.eq_1)) (And.intro (@mU _ _ ac_ref07_Check_12.eq_1) (@mU _ _ ac_ref07_Check_13.eq_1))) (And.intro (And.intro (@mU _ _ ac_ref07_Check_14.eq_1) (@mU _ _ ac_ref07_Check_15.eq_1)) (And.intro (@mU _ _ ac_ref07_Check_16.eq_1) (@mR _ _ ac_ref07_Check_17.eq_1))))) (And.intro (And.intro (And.intro (And.intro (And.intro (@mU _ _ ac_ref07_Check_18.eq_1) (@mU _ _ ac_ref07_Check_19.eq_1)) (@mU _ _ ac_ref07_Check_20.eq_1)) (And.intro (@mU _ _ ac_ref07_Check_21.eq_1) (@mU _ _ ac_ref07_Check_22.eq_1))) (And.intro (And.intro (@mR _ _ ac_ref07_Check_23.eq_1) (@mU _ _ ac_ref07_Check_24.eq_1)) (And.intro (@mU _ _ ac_ref07_Check_25.eq_1) (@mU _ _ ac_ref07_Check_26.eq_1)))) (And.intro (And.intro (And.intro (And.intro @l_ref07_Check_0.eq_1 @l_ref07_Check_1.eq_1) @l_ref07_Check_2.eq_1) (And.intro @l_ref07_Check_5.eq_1 @l_ref07_Check_6.eq_1)) (And.intro (And.intro @l_ref07_Check_10.eq_1 @l_ref07_Check_11.eq_1) (And.intro @l_ref07_Check_17.eq_1 @l_ref07_Check_23.eq_1)))))

/- scoria/scoriaref07.Range -/
def l_ref07_Range_0 : List AOp := [⟨(some 4), .mv (.k (.bool false)), none, none, [], none⟩]
def ac_ref07_Range_0 : AC := .reg l_ref07_Range_0
def l_ref07_Range_1 : List AOp := [⟨(some 5), .mv (.t 0), none, none, [], none⟩,
  ⟨(some 6), .bin .geq (.t 5) (.k (.int .i64 0)), none, none, [], none⟩,
  ⟨(some 7), .mv (.t 6), none, none, [], none⟩,
  ⟨(some 8), .mv (.t 0), (some (7, true)), none, [], none⟩,
  ⟨(some 9), .bin .leq (.t 8) (.k (.int .i64 16777216)), (some (7, true)), none, [], none⟩,
  ⟨(some 10), .pick (.t 7) (.t 9) (.k (.bool false)), none, none, [], none⟩,
  ⟨(some 11), .mv (.t 10), none, none, [], none⟩,
  ⟨(some 12), .mv (.t 1), (some (11, true)), none, [], none⟩,
  ⟨(some 13), .bin .geq (.t 12) (.k (.int .i64 0)), (some (11, true)), none, [], none⟩,
  ⟨(some 14), .pick (.t 11) (.t 13) (.k (.bool false)), none, none, [], none⟩,
  ⟨(some 15), .mv (.t 14), none, none, [], none⟩,
  ⟨(some 16), .mv (.t 1), (some (15, true)), none, [], none⟩,
  ⟨(some 17), .mv (.t 0), (some (15, true)), none, [], none⟩,
  ⟨(some 18), .bin .sub (.k (.int .i64 16777216)) (.t 17), (some (15, true)), none, [], none⟩,
  ⟨(some 19), .bin .leq (.t 16) (.t 18), (some (15, true)), none, [], none⟩,
  ⟨(some 20), .pick (.t 15) (.t 19) (.k (.bool false)), none, none, [], none⟩,
  ⟨(some 4), .mv (.t 20), none, none, [], none⟩]
def ac_ref07_Range_1 : AC := .reg l_ref07_Range_1
def ac_ref07_Range_2 : AC := .seq ac_ref07_Range_1 .ret
def ac_ref07_Range_3 : AC := .seq ac_ref07_Range_0 ac_ref07_Range_2
def ac_ref07_Range : AC := ac_ref07_Range_3
theorem comp_ref07_Range : compF Try.prog [] (drawR Try.prog [] Try.f18.ntmps) [] 2 Try.f18 = some (ac_ref07_Range, [.t 4]) := by kernel_rfl
def U_ref07_Range := (And.intro (And.intro (And.intro @ac_ref07_Range.eq_1 (@mR _ _ ac_ref07_Range_0.eq_1)) (And.intro (@mR _ _ ac_ref07_Range_1.eq_1) (@mU _ _ ac_ref07_Range_2.eq_1))) (And.intro (And.intro (@mU _ _ ac_ref07_Range_3.eq_1) @l_ref07_Range_0.eq_1) @l_ref07_Range_1.eq_1))

/- scoria/scorialaw07.holds -/
def l_law07_holds_0 : List AOp := [⟨(some 12), .mv (.k (.bool false)), none, none, [], none⟩]
def ac_law07_holds_0 : AC := .reg l_law07_holds_0
def l_law07_holds_1 : List AOp := [⟨(some 17), .mv (.t 0), none, none, [], none⟩,
  ⟨(some 18), .call false 15 [(.t 17)], none, none, [], none⟩,
  ⟨(some 19), .call false 17 [(.t 18)], none, none, [], none⟩,
  ⟨(some 20), .un .not (.t 19), none, none, [], none⟩]
def ac_law07_holds_1 : AC := .reg l_law07_holds_1
def l_law07_holds_2 : List AOp := [⟨(some 12), .mv (.k (.bool false)), none, none, [], none⟩]
def ac_law07_holds_2 : AC := .reg l_law07_holds_2
def ac_law07_holds_3 : AC := .seq ac_law07_holds_2 .ret
def ac_law07_holds_4 : AC := .cond (.t 20) ac_law07_holds_3 .skip
def ac_law07_holds_5 : AC := .seq ac_law07_holds_1 ac_law07_holds_4
def l_law07_holds_6 : List AOp := [⟨(some 21), .mv (.t 0), none, none, [], none⟩,
  ⟨(some 22), .call false 15 [(.t 21)], none, none, [], none⟩,
  ⟨(some 23), .call true 38 [(.t 22)], none, none, [], none⟩,
  ⟨(some 24), .mv (.t 1), none, none, [], none⟩,
  ⟨(some 25), .call false 15 [(.t 24)], none, none, [], none⟩,
  ⟨(some 26), .call false 38 [(.t 25)], none, none, [], none⟩,
  ⟨(some 27), .app 1 8 [(.int .i64 0)] (.t 23) (.t 26), none, none, [], none⟩,
  ⟨(some 13), .mv (.t 27), none, none, [], none⟩]
def ac_law07_holds_6 : AC := .reg l_law07_holds_6
def l_law07_holds_7 : List AOp := [⟨(some 28), .mv (.t 13), none, none, [], none⟩,
  ⟨(some 29), .mv (.t 2), none, none, [], none⟩,
  ⟨(some 30), .bin .sub (.t 29) (.k (.int .i64 1)), none, none, [], none⟩,
  ⟨(some 31), .mv (.t 2), none, none, [], none⟩,
  ⟨(some 32), .mv (.t 2), none, none, [], none⟩,
  ⟨(some 33), .mv (.t 3), none, none, [], none⟩,
  ⟨(some 34), .bin .add (.t 32) (.t 33), none, none, [], none⟩,
  ⟨(some 35), .bin .sub (.t 34) (.k (.int .i64 1)), none, none, [], none⟩,
  ⟨(some 36), .mv (.t 2), none, none, [], none⟩,
  ⟨(some 37), .mv (.t 3), none, none, [], none⟩,
  ⟨(some 38), .bin .add (.t 36) (.t 37), none, none, [], none⟩,
  ⟨(some 39), .blds false [(.int .i64 0)] 7 [(0, (.t 30)), (1, (.t 31)), (2, (.t 35)), (3, (.t 38)), (4, (.k (.int .i64 0))), (5, (.k (.int .i64 16777215))), (6, (.k (.int .i64 16777216)))], none, none, [], none⟩,
  ⟨(some 40), .app 1 8 [(.int .i64 0)] (.t 28) (.t 39), none, none, [], none⟩,
  ⟨(some 13), .mv (.t 40), none, none, [], none⟩]
def ac_law07_holds_7 : AC := .reg l_law07_holds_7
def l_law07_holds_8 : List AOp := [⟨(some 14), .mv (.k (.int .i64 0)), none, none, [], none⟩]
def ac_law07_holds_8 : AC := .reg l_law07_holds_8
def l_law07_holds_9 : List AOp := [⟨(some 41), .mv (.t 14), none, none, [], none⟩,
  ⟨(some 42), .mv (.t 13), none, none, [], none⟩,
  ⟨(some 43), .len (.t 42), none, none, [], none⟩,
  ⟨(some 44), .bin .lss (.t 41) (.t 43), none, none, [], none⟩]
def ac_law07_holds_9 : AC := .reg l_law07_holds_9
def ac_law07_holds_10 : AC := .cond (.t 44) .skip (.exit 0)
def ac_law07_holds_11 : AC := .seq ac_law07_holds_9 ac_law07_holds_10
def l_law07_holds_12 : List AOp := [⟨(some 47), .mv (.t 13), none, none, [], none⟩,
  ⟨(some 48), .mv (.t 14), none, none, [], none⟩,
  ⟨(some 49), .isl 1 (.t 47) (.t 48), none, none, [], none⟩,
  ⟨(some 50), .load none (.t 49), none, none, [], none⟩,
  ⟨(some 15), .mv (.t 50), none, none, [], none⟩]
def ac_law07_holds_12 : AC := .reg l_law07_holds_12
def l_law07_holds_13 : List AOp := [⟨(some 51), .mv (.t 5), none, none, [], none⟩,
  ⟨(some 52), .mv (.t 15), none, none, [], none⟩,
  ⟨(some 53), .call false 29 [(.t 51), (.t 52)], none, none, [], none⟩,
  ⟨(some 16), .alloc [(.int .i64 0), (.int .i64 0)], none, none, [], none⟩,
  ⟨none, .store 2 (.t 16) (.t 53), none, none, [], none⟩]
def ac_law07_holds_13 : AC := .reg l_law07_holds_13
def l_law07_holds_14 : List AOp := [⟨(some 54), .mv (.t 15), none, none, [], none⟩,
  ⟨(some 55), .mv (.t 2), none, none, [], none⟩,
  ⟨(some 56), .bin .geq (.t 54) (.t 55), none, none, [], none⟩,
  ⟨(some 57), .mv (.t 56), none, none, [], none⟩,
  ⟨(some 58), .mv (.t 15), (some (57, true)), none, [], none⟩,
  ⟨(some 59), .mv (.t 2), (some (57, true)), none, [], none⟩,
  ⟨(some 60), .bin .sub (.t 58) (.t 59), (some (57, true)), none, [], none⟩,
  ⟨(some 61), .mv (.t 3), (some (57, true)), none, [], none⟩,
  ⟨(some 62), .bin .lss (.t 60) (.t 61), (some (57, true)), none, [], none⟩,
  ⟨(some 63), .pick (.t 57) (.t 62) (.k (.bool false)), none, none, [], none⟩]
def ac_law07_holds_14 : AC := .reg l_law07_holds_14
def l_law07_holds_15 : List AOp := [⟨(some 64), .mv (.t 4), none, none, [], none⟩,
  ⟨(some 65), .mv (.t 15), none, none, [], none⟩,
  ⟨(some 66), .call false 29 [(.t 64), (.t 65)], none, none, [], none⟩,
  ⟨none, .store 2 (.t 16) (.t 66), none, none, [], none⟩]
def ac_law07_holds_15 : AC := .reg l_law07_holds_15
def ac_law07_holds_16 : AC := .cond (.t 63) ac_law07_holds_15 .skip
def ac_law07_holds_17 : AC := .seq ac_law07_holds_14 ac_law07_holds_16
def l_law07_holds_18 : List AOp := [⟨(some 67), .mv (.t 0), none, none, [], none⟩,
  ⟨(some 68), .call false 15 [(.t 67)], none, none, [], none⟩,
  ⟨(some 69), .mv (.t 15), none, none, [], none⟩,
  ⟨(some 70), .call false 29 [(.t 68), (.t 69)], none, none, [], none⟩,
  ⟨(some 71), .load (some 2) (.t 16), none, none, [], none⟩,
  ⟨(some 72), .eqs true [.i, .i] (.t 70) (.t 71), none, none, [], none⟩]
def ac_law07_holds_18 : AC := .dreg 0 l_law07_holds_18
def l_law07_holds_19 : List AOp := [⟨(some 12), .mv (.k (.bool false)), none, none, [], none⟩]
def ac_law07_holds_19 : AC := .reg l_law07_holds_19
def ac_law07_holds_20 : AC := .seq ac_law07_holds_19 .ret
def ac_law07_holds_21 : AC := .cond (.t 72) ac_law07_holds_20 .skip
def ac_law07_holds_22 : AC := .seq ac_law07_holds_18 ac_law07_holds_21
def ac_law07_holds_23 : AC := .seq ac_law07_holds_17 ac_law07_holds_22
def ac_law07_holds_24 : AC := .seq ac_law07_holds_13 ac_law07_holds_23
def ac_law07_holds_25 : AC := .seq ac_law07_holds_12 ac_law07_holds_24
def ac_law07_holds_26 : AC := .block 1 ac_law07_holds_25
def l_law07_holds_27 : List AOp := [⟨(some 45), .mv (.t 14), none, none, [], none⟩,
  ⟨(some 46), .bin .add (.t 45) (.k (.int .i64 1)), none, none, [], none⟩,
  ⟨(some 14), .mv (.t 46), none, none, [], none⟩]
def ac_law07_holds_27 : AC := .reg l_law07_holds_27
def ac_law07_holds_28 : AC := .seq ac_law07_holds_26 ac_law07_holds_27
def ac_law07_holds_29 : AC := .seq ac_law07_holds_11 ac_law07_holds_28
def ac_law07_holds_30 : AC := .loop [0, 2, 3, 4, 5, 13, 14] 1 ac_law07_holds_29
def ac_law07_holds_31 : AC := .block 0 ac_law07_holds_30
def ac_law07_holds_32 : AC := .seq ac_law07_holds_8 ac_law07_holds_31
def l_law07_holds_33 : List AOp := [⟨(some 12), .mv (.k (.bool true)), none, none, [], none⟩]
def ac_law07_holds_33 : AC := .reg l_law07_holds_33
def ac_law07_holds_34 : AC := .seq ac_law07_holds_33 .ret
def ac_law07_holds_35 : AC := .seq ac_law07_holds_32 ac_law07_holds_34
def ac_law07_holds_36 : AC := .seq ac_law07_holds_7 ac_law07_holds_35
def ac_law07_holds_37 : AC := .seq ac_law07_holds_6 ac_law07_holds_36
def ac_law07_holds_38 : AC := .seq ac_law07_holds_5 ac_law07_holds_37
def ac_law07_holds_39 : AC := .seq ac_law07_holds_0 ac_law07_holds_38
def ac_law07_holds : AC := ac_law07_holds_39
theorem comp_law07_holds : compF Try.prog [23] (drawR Try.prog [23] Try.f19.ntmps) [([0, 2, 3, 4, 5, 13, 14], 1)] 6 Try.f19 = some (ac_law07_holds, [.t 12]) := by kernel_rfl
def U_law07_holds := (And.intro (And.intro (And.intro (And.intro (And.intro (And.intro @ac_law07_holds.eq_1 (@mR _ _ ac_law07_holds_0.eq_1)) (And.intro (@mR _ _ ac_law07_holds_1.eq_1) (@mR _ _ ac_law07_holds_2.eq_1))) (And.intro (And.intro (@mU _ _ ac_law07_holds_3.eq_1) (@mU _ _ ac_law07_holds_4.eq_1)) (@mU _ _ ac_law07_holds_5.eq_1))) (And.intro (And.intro (And.intro (@mR _ _ ac_law07_holds_6.eq_1) (@mR _ _ ac_law07_holds_7.eq_1)) (And.intro (@mR _ _ ac_law07_holds_8.eq_1) (@mR _ _ ac_law07_holds_9.eq_1))) (And.intro (And.intro (@mU _ _ ac_law07_holds_10.eq_1) (@mU _ _ ac_law07_holds_11.eq_1)) (@mR _ _ ac_law07_holds_12.eq_1)))) (And.intro (And.intro (And.intro (And.intro (@mR _ _ ac_law07_holds_13.eq_1) (@mR _ _ ac_law07_holds_14.eq_1)) (And.intro (@mR _ _ ac_law07_holds_15.eq_1) (@mU _ _ ac_law07_holds_16.eq_1))) (And.intro (And.intro (@mU _ _ ac_law07_holds_17.eq_1) (@mD _ _ _ ac_law07_holds_18.eq_1)) (@mR _ _ ac_law07_holds_19.eq_1))) (And.intro (And.intro (And.intro (@mU _ _ ac_law07_holds_20.eq_1) (@mU _ _ ac_law07_holds_21.eq_1)) (And.intro (@mU _ _ ac_law07_holds_22.eq_1) (@mU _ _ ac_law07_holds_23.eq_1))) (And.intro (And.intro (@mU _ _ ac_law07_holds_24.eq_1) (@mU _ _ ac_law07_holds_25.eq_1)) (@mU _ _ ac_law07_holds_26.eq_1))))) (And.intro (And.intro (And.intro (And.intro (And.intro (@mR _ _ ac_law07_holds_27.eq_1) (@mU _ _ ac_law07_holds_28.eq_1)) (And.intro (@mU _ _ ac_law07_holds_29.eq_1) (@mU _ _ ac_law07_holds_30.eq_1))) (And.intro (And.intro (@mU _ _ ac_law07_holds_31.eq_1) (@mU _ _ ac_law07_holds_32.eq_1)) (@mR _ _ ac_law07_holds_33.eq_1))) (And.intro (And.intro (And.intro (@mU _ _ ac_law07_holds_34.eq_1) (@mU _ _ ac_law07_holds_35.eq_1)) (And.intro (@mU _ _ ac_law07_holds_36.eq_1) (@mU _ _ ac_law07_holds_37.eq_1))) (And.intro (And.intro (@mU _ _ ac_law07_holds_38.eq_1) (@mU _ _ ac_law07_holds_39.eq_1)) @l_law07_holds_0.eq_1))) (And.intro (And.intro (And.intro (And.intro @l_law07_holds_1.eq_1 @l_law07_holds_2.eq_1) (And.intro @l_law07_holds_6.eq_1 @l_law07_holds_7.eq_1)) (And.intro (And.intro @l_law07_holds_8.eq_1 @l_law07_holds_9.eq_1) @l_law07_holds_12.eq_1)) (And.intro (And.intro (And.intro @l_law07_holds_13.eq_1 @l_law07_holds_14.eq_1) (And.intro @l_law07_holds_15.eq_1 @l_law07_holds_18.eq_1)) (And.intro (And.intro @l_law07_holds_19.eq_1 @l_law07_holds_27.eq_1) @l_law07_holds_33.eq_1)))))

/- scoria/ext.Over -/
def l_ext_Over_0 : List AOp := [⟨(some 3), .box (.t 1), none, none, [], none⟩,
  ⟨(some 4), .mv (.k (.slc [])), none, none, [], none⟩,
  ⟨(some 5), .mv (.k (.int .i64 0)), none, none, [], none⟩]
def ac_ext_Over_0 : AC := .reg l_ext_Over_0
def l_ext_Over_1 : List AOp := [⟨(some 6), .mv (.t 0), none, none, [], none⟩,
  ⟨(some 7), .call false 27 [(.t 6)], none, none, [], none⟩,
  ⟨(some 8), .un .not (.t 7), none, none, [], none⟩,
  ⟨(some 9), .mv (.t 8), none, none, [], none⟩,
  ⟨(some 10), .load (some 4) (.t 3), (some (9, false)), none, [], none⟩,
  ⟨(some 11), .call false 26 [(.t 10)], (some (9, false)), none, [], none⟩,
  ⟨(some 12), .un .not (.t 11), (some (9, false)), none, [], none⟩,
  ⟨(some 13), .pick (.t 9) (.k (.bool true)) (.t 12), none, none, [], none⟩]
def ac_ext_Over_1 : AC := .reg l_ext_Over_1
def l_ext_Over_2 : List AOp := [⟨(some 4), .mv (.k (.slc [])), none, none, [], none⟩,
  ⟨(some 5), .mv (.k (.int .i64 1)), none, none, [], none⟩]
def ac_ext_Over_2 : AC := .reg l_ext_Over_2
def ac_ext_Over_3 : AC := .seq ac_ext_Over_2 .ret
def ac_ext_Over_4 : AC := .cond (.t 13) ac_ext_Over_3 .skip
def ac_ext_Over_5 : AC := .seq ac_ext_Over_1 ac_ext_Over_4
def l_ext_Over_6 : List AOp := [⟨(some 14), .mv (.t 0), none, none, [], none⟩,
  ⟨(some 15), .faddr 0 (.t 3), none, none, [], none⟩,
  ⟨(some 16), .load none (.t 15), none, none, [], none⟩,
  ⟨(some 17), .call false 36 [(.t 14), (.k (.int .i64 0)), (.t 16)], none, none, [], none⟩,
  ⟨(some 18), .load (some 4) (.t 3), none, none, [], none⟩,
  ⟨(some 19), .blds false [(.int .i64 0), (.int .i64 0), (.int .i64 0), (.int .i64 0)] 1 [(0, (.t 18))], none, none, [], none⟩,
  ⟨(some 20), .mv (.t 0), none, none, [], none⟩,
  ⟨(some 21), .load (some 4) (.t 3), none, none, [], none⟩,
  ⟨(some 22), .call false 39 [(.t 21)], none, none, [], none⟩,
  ⟨(some 23), .call false 36 [(.t 20), (.t 22), (.k (.int .i64 16777216))], none, none, [], none⟩,
  ⟨(some 24), .blds false [(.slc [])] 3 [(0, (.t 17)), (1, (.t 19)), (2, (.t 23))], none, none, [], none⟩,
  ⟨(some 25), .call false 35 [(.t 24)], none, none, [], none⟩,
  ⟨(some 26), .call false 34 [(.t 25)], none, none, [], none⟩,
  ⟨(some 4), .mv (.t 26), none, none, [], none⟩,
  ⟨(some 5), .mv (.k (.int .i64 0)), none, none, [], none⟩]
def ac_ext_Over_6 : AC := .dreg 0 l_ext_Over_6
def ac_ext_Over_7 : AC := .seq ac_ext_Over_6 .ret
def ac_ext_Over_8 : AC := .seq ac_ext_Over_5 ac_ext_Over_7
def ac_ext_Over_9 : AC := .seq ac_ext_Over_0 ac_ext_Over_8
def ac_ext_Over : AC := ac_ext_Over_9
theorem comp_ext_Over : compF Try.prog [] (drawR Try.prog [] Try.f20.ntmps) [] 2 Try.f20 = some (ac_ext_Over, [.t 4, .t 5]) := by kernel_rfl
def U_ext_Over := (And.intro (And.intro (And.intro (And.intro @ac_ext_Over.eq_1 (@mR _ _ ac_ext_Over_0.eq_1)) (And.intro (@mR _ _ ac_ext_Over_1.eq_1) (@mR _ _ ac_ext_Over_2.eq_1))) (And.intro (And.intro (@mU _ _ ac_ext_Over_3.eq_1) (@mU _ _ ac_ext_Over_4.eq_1)) (And.intro (@mU _ _ ac_ext_Over_5.eq_1) (@mD _ _ _ ac_ext_Over_6.eq_1)))) (And.intro (And.intro (And.intro (@mU _ _ ac_ext_Over_7.eq_1) (@mU _ _ ac_ext_Over_8.eq_1)) (And.intro (@mU _ _ ac_ext_Over_9.eq_1) @l_ext_Over_0.eq_1)) (And.intro (And.intro @l_ext_Over_1.eq_1 @l_ext_Over_2.eq_1) @l_ext_Over_6.eq_1)))

/- scoria/scoriaref07.One -/
def l_ref07_One_0 : List AOp := [⟨(some 1), .box (.t 0), none, none, [], none⟩,
  ⟨(some 2), .mv (.k (.bool false)), none, none, [], none⟩]
def ac_ref07_One_0 : AC := .reg l_ref07_One_0
def l_ref07_One_1 : List AOp := [⟨(some 3), .faddr 0 (.t 1), none, none, [], none⟩,
  ⟨(some 4), .load none (.t 3), none, none, [], none⟩,
  ⟨(some 5), .faddr 1 (.t 1), none, none, [], none⟩,
  ⟨(some 6), .load none (.t 5), none, none, [], none⟩,
  ⟨(some 7), .call false 18 [(.t 4), (.t 6)], none, none, [], none⟩,
  ⟨(some 8), .un .not (.t 7), none, none, [], none⟩,
  ⟨(some 9), .mv (.t 8), none, none, [], none⟩,
  ⟨(some 10), .faddr 1 (.t 1), (some (9, false)), none, [], none⟩,
  ⟨(some 11), .load none (.t 10), (some (9, false)), none, [], none⟩,
  ⟨(some 12), .bin .eql (.t 11) (.k (.int .i64 0)), (some (9, false)), none, [], none⟩,
  ⟨(some 13), .pick (.t 9) (.k (.bool true)) (.t 12), none, none, [], none⟩]
def ac_ref07_One_1 : AC := .reg l_ref07_One_1
def l_ref07_One_2 : List AOp := [⟨(some 2), .mv (.k (.bool false)), none, none, [], none⟩]
def ac_ref07_One_2 : AC := .reg l_ref07_One_2
def ac_ref07_One_3 : AC := .seq ac_ref07_One_2 .ret
def ac_ref07_One_4 : AC := .cond (.t 13) ac_ref07_One_3 .skip
def ac_ref07_One_5 : AC := .seq ac_ref07_One_1 ac_ref07_One_4
def l_ref07_One_6 : List AOp := [⟨(some 14), .faddr 2 (.t 1), none, none, [], none⟩,
  ⟨(some 15), .load none (.t 14), none, none, [], none⟩,
  ⟨(some 16), .bin .eql (.t 15) (.k (.int .i64 1)), none, none, [], none⟩]
def ac_ref07_One_6 : AC := .reg l_ref07_One_6
def l_ref07_One_7 : List AOp := [⟨(some 17), .faddr 3 (.t 1), none, none, [], none⟩,
  ⟨(some 18), .load none (.t 17), none, none, [], none⟩,
  ⟨(some 19), .bin .eql (.t 18) (.k (.int .i64 0)), none, none, [], none⟩,
  ⟨(some 2), .mv (.t 19), none, none, [], none⟩]
def ac_ref07_One_7 : AC := .reg l_ref07_One_7
def ac_ref07_One_8 : AC := .seq ac_ref07_One_7 .ret
def ac_ref07_One_9 : AC := .cond (.t 16) ac_ref07_One_8 .skip
def ac_ref07_One_10 : AC := .seq ac_ref07_One_6 ac_ref07_One_9
def l_ref07_One_11 : List AOp := [⟨(some 20), .faddr 2 (.t 1), none, none, [], none⟩,
  ⟨(some 21), .load none (.t 20), none, none, [], none⟩,
  ⟨(some 22), .bin .eql (.t 21) (.k (.int .i64 2)), none, none, [], none⟩,
  ⟨(some 23), .mv (.t 22), none, none, [], none⟩,
  ⟨(some 24), .faddr 3 (.t 1), (some (23, true)), none, [], none⟩,
  ⟨(some 25), .load none (.t 24), (some (23, true)), none, [], none⟩,
  ⟨(some 26), .bin .geq (.t 25) (.k (.int .i64 0)), (some (23, true)), none, [], none⟩,
  ⟨(some 27), .pick (.t 23) (.t 26) (.k (.bool false)), none, none, [], none⟩,
  ⟨(some 28), .mv (.t 27), none, none, [], none⟩,
  ⟨(some 29), .faddr 3 (.t 1), (some (28, true)), none, [], none⟩,
  ⟨(some 30), .load none (.t 29), (some (28, true)), none, [], none⟩,
  ⟨(some 31), .bin .leq (.t 30) (.k (.int .i64 2048)), (some (28, true)), none, [], none⟩,
  ⟨(some 32), .pick (.t 28) (.t 31) (.k (.bool false)), none, none, [], none⟩,
  ⟨(some 33), .mv (.t 32), none, none, [], none⟩,
  ⟨(some 34), .faddr 1 (.t 1), (some (33, true)), none, [], none⟩,
  ⟨(some 35), .load none (.t 34), (some (33, true)), none, [], none⟩,
  ⟨(some 36), .faddr 3 (.t 1), (some (33, true)), none, [], none⟩,
  ⟨(some 37), .load none (.t 36), (some (33, true)), none, [], none⟩,
  ⟨(some 38), .bin .sub (.k (.int .i64 2048)) (.t 37), (some (33, true)), none, [], none⟩,
  ⟨(some 39), .bin .leq (.t 35) (.t 38), (some (33, true)), none, [], none⟩,
  ⟨(some 40), .pick (.t 33) (.t 39) (.k (.bool false)), none, none, [], none⟩,
  ⟨(some 2), .mv (.t 40), none, none, [], none⟩]
def ac_ref07_One_11 : AC := .reg l_ref07_One_11
def ac_ref07_One_12 : AC := .seq ac_ref07_One_11 .ret
def ac_ref07_One_13 : AC := .seq ac_ref07_One_10 ac_ref07_One_12
def ac_ref07_One_14 : AC := .seq ac_ref07_One_5 ac_ref07_One_13
def ac_ref07_One_15 : AC := .seq ac_ref07_One_0 ac_ref07_One_14
def ac_ref07_One : AC := ac_ref07_One_15
theorem comp_ref07_One : compF Try.prog [] (drawR Try.prog [] Try.f21.ntmps) [] 1 Try.f21 = some (ac_ref07_One, [.t 2]) := by kernel_rfl
def U_ref07_One := (And.intro (And.intro (And.intro (And.intro (And.intro @ac_ref07_One.eq_1 (@mR _ _ ac_ref07_One_0.eq_1)) (@mR _ _ ac_ref07_One_1.eq_1)) (And.intro (And.intro (@mR _ _ ac_ref07_One_2.eq_1) (@mU _ _ ac_ref07_One_3.eq_1)) (@mU _ _ ac_ref07_One_4.eq_1))) (And.intro (And.intro (And.intro (@mU _ _ ac_ref07_One_5.eq_1) (@mR _ _ ac_ref07_One_6.eq_1)) (@mR _ _ ac_ref07_One_7.eq_1)) (And.intro (And.intro (@mU _ _ ac_ref07_One_8.eq_1) (@mU _ _ ac_ref07_One_9.eq_1)) (@mU _ _ ac_ref07_One_10.eq_1)))) (And.intro (And.intro (And.intro (And.intro (@mR _ _ ac_ref07_One_11.eq_1) (@mU _ _ ac_ref07_One_12.eq_1)) (@mU _ _ ac_ref07_One_13.eq_1)) (And.intro (And.intro (@mU _ _ ac_ref07_One_14.eq_1) (@mU _ _ ac_ref07_One_15.eq_1)) @l_ref07_One_0.eq_1)) (And.intro (And.intro (And.intro @l_ref07_One_1.eq_1 @l_ref07_One_2.eq_1) @l_ref07_One_6.eq_1) (And.intro @l_ref07_One_7.eq_1 @l_ref07_One_11.eq_1))))

/- scoria/scorialaw07.alike -/
def l_law07_alike_0 : List AOp := [⟨(some 4), .mv (.k (.bool false)), none, none, [], none⟩]
def ac_law07_alike_0 : AC := .reg l_law07_alike_0
def l_law07_alike_1 : List AOp := [⟨(some 6), .mv (.t 0), none, none, [], none⟩,
  ⟨(some 7), .len (.t 6), none, none, [], none⟩,
  ⟨(some 8), .mv (.t 1), none, none, [], none⟩,
  ⟨(some 9), .len (.t 8), none, none, [], none⟩,
  ⟨(some 10), .bin .neq (.t 7) (.t 9), none, none, [], none⟩]
def ac_law07_alike_1 : AC := .reg l_law07_alike_1
def l_law07_alike_2 : List AOp := [⟨(some 4), .mv (.k (.bool false)), none, none, [], none⟩]
def ac_law07_alike_2 : AC := .reg l_law07_alike_2
def ac_law07_alike_3 : AC := .seq ac_law07_alike_2 .ret
def ac_law07_alike_4 : AC := .cond (.t 10) ac_law07_alike_3 .skip
def ac_law07_alike_5 : AC := .seq ac_law07_alike_1 ac_law07_alike_4
def l_law07_alike_6 : List AOp := [⟨(some 5), .mv (.k (.int .i64 0)), none, none, [], none⟩]
def ac_law07_alike_6 : AC := .reg l_law07_alike_6
def l_law07_alike_7 : List AOp := [⟨(some 11), .mv (.t 5), none, none, [], none⟩,
  ⟨(some 12), .mv (.t 0), none, none, [], none⟩,
  ⟨(some 13), .len (.t 12), none, none, [], none⟩,
  ⟨(some 14), .bin .lss (.t 11) (.t 13), none, none, [], none⟩]
def ac_law07_alike_7 : AC := .reg l_law07_alike_7
def ac_law07_alike_8 : AC := .cond (.t 14) .skip (.exit 0)
def ac_law07_alike_9 : AC := .seq ac_law07_alike_7 ac_law07_alike_8
def l_law07_alike_10 : List AOp := [⟨(some 17), .mv (.t 0), none, none, [], none⟩,
  ⟨(some 18), .mv (.t 5), none, none, [], none⟩,
  ⟨(some 19), .isl 4 (.t 17) (.t 18), none, none, [], none⟩,
  ⟨(some 20), .load (some 4) (.t 19), none, none, [], none⟩,
  ⟨(some 21), .mv (.t 1), none, none, [], none⟩,
  ⟨(some 22), .mv (.t 5), none, none, [], none⟩,
  ⟨(some 23), .isl 4 (.t 21) (.t 22), none, none, [], none⟩,
  ⟨(some 24), .load (some 4) (.t 23), none, none, [], none⟩,
  ⟨(some 25), .eqs true [.i, .i, .i, .i] (.t 20) (.t 24), none, none, [], none⟩]
def ac_law07_alike_10 : AC := .dreg 0 l_law07_alike_10
def l_law07_alike_11 : List AOp := [⟨(some 4), .mv (.k (.bool false)), none, none, [], none⟩]
def ac_law07_alike_11 : AC := .reg l_law07_alike_11
def ac_law07_alike_12 : AC := .seq ac_law07_alike_11 .ret
def ac_law07_alike_13 : AC := .cond (.t 25) ac_law07_alike_12 .skip
def ac_law07_alike_14 : AC := .seq ac_law07_alike_10 ac_law07_alike_13
def ac_law07_alike_15 : AC := .block 1 ac_law07_alike_14
def l_law07_alike_16 : List AOp := [⟨(some 15), .mv (.t 5), none, none, [], none⟩,
  ⟨(some 16), .bin .add (.t 15) (.k (.int .i64 1)), none, none, [], none⟩,
  ⟨(some 5), .mv (.t 16), none, none, [], none⟩]
def ac_law07_alike_16 : AC := .reg l_law07_alike_16
def ac_law07_alike_17 : AC := .seq ac_law07_alike_15 ac_law07_alike_16
def ac_law07_alike_18 : AC := .seq ac_law07_alike_9 ac_law07_alike_17
def ac_law07_alike_19 : AC := .loop [0, 1, 5] 0 ac_law07_alike_18
def ac_law07_alike_20 : AC := .block 0 ac_law07_alike_19
def ac_law07_alike_21 : AC := .seq ac_law07_alike_6 ac_law07_alike_20
def l_law07_alike_22 : List AOp := [⟨(some 4), .mv (.k (.bool true)), none, none, [], none⟩]
def ac_law07_alike_22 : AC := .reg l_law07_alike_22
def ac_law07_alike_23 : AC := .seq ac_law07_alike_22 .ret
def ac_law07_alike_24 : AC := .seq ac_law07_alike_21 ac_law07_alike_23
def ac_law07_alike_25 : AC := .seq ac_law07_alike_5 ac_law07_alike_24
def ac_law07_alike_26 : AC := .seq ac_law07_alike_0 ac_law07_alike_25
def ac_law07_alike : AC := ac_law07_alike_26
theorem comp_law07_alike : compF Try.prog [] (drawR Try.prog [] Try.f22.ntmps) [([0, 1, 5], 0)] 2 Try.f22 = some (ac_law07_alike, [.t 4]) := by kernel_rfl
def U_law07_alike := (And.intro (And.intro (And.intro (And.intro (And.intro (And.intro @ac_law07_alike.eq_1 (@mR _ _ ac_law07_alike_0.eq_1)) (@mR _ _ ac_law07_alike_1.eq_1)) (And.intro (@mR _ _ ac_law07_alike_2.eq_1) (@mU _ _ ac_law07_alike_3.eq_1))) (And.intro (And.intro (And.intro (@mU _ _ ac_law07_alike_4.eq_1) (@mU _ _ ac_law07_alike_5.eq_1)) (@mR _ _ ac_law07_alike_6.eq_1)) (And.intro (@mR _ _ ac_law07_alike_7.eq_1) (@mU _ _ ac_law07_alike_8.eq_1)))) (And.intro (And.intro (And.intro (And.intro (@mU _ _ ac_law07_alike_9.eq_1) (@mD _ _ _ ac_law07_alike_10.eq_1)) (@mR _ _ ac_law07_alike_11.eq_1)) (And.intro (@mU _ _ ac_law07_alike_12.eq_1) (@mU _ _ ac_law07_alike_13.eq_1))) (And.intro (And.intro (@mU _ _ ac_law07_alike_14.eq_1) (@mU _ _ ac_law07_alike_15.eq_1)) (And.intro (@mR _ _ ac_law07_alike_16.eq_1) (@mU _ _ ac_law07_alike_17.eq_1))))) (And.intro (And.intro (And.intro (And.intro (And.intro (@mU _ _ ac_law07_alike_18.eq_1) (@mU _ _ ac_law07_alike_19.eq_1)) (@mU _ _ ac_law07_alike_20.eq_1)) (And.intro (@mU _ _ ac_law07_alike_21.eq_1) (@mR _ _ ac_law07_alike_22.eq_1))) (And.intro (And.intro (@mU _ _ ac_law07_alike_23.eq_1) (@mU _ _ ac_law07_alike_24.eq_1)) (And.intro (@mU _ _ ac_law07_alike_25.eq_1) (@mU _ _ ac_law07_alike_26.eq_1)))) (And.intro (And.intro (And.intro (And.intro @l_law07_alike_0.eq_1 @l_law07_alike_1.eq_1) @l_law07_alike_2.eq_1) (And.intro @l_law07_alike_6.eq_1 @l_law07_alike_7.eq_1)) (And.intro (And.intro @l_law07_alike_10.eq_1 @l_law07_alike_11.eq_1) (And.intro @l_law07_alike_16.eq_1 @l_law07_alike_22.eq_1)))))

/- scoria/ext.Clip -/
def l_ext_Clip_0 : List AOp := [⟨(some 6), .mv (.k (.slc [])), none, none, [], none⟩,
  ⟨(some 7), .mv (.k (.int .i64 0)), none, none, [], none⟩]
def ac_ext_Clip_0 : AC := .reg l_ext_Clip_0
def l_ext_Clip_1 : List AOp := [⟨(some 8), .mv (.t 0), none, none, [], none⟩,
  ⟨(some 9), .call false 27 [(.t 8)], none, none, [], none⟩,
  ⟨(some 10), .un .not (.t 9), none, none, [], none⟩,
  ⟨(some 11), .mv (.t 10), none, none, [], none⟩,
  ⟨(some 12), .mv (.t 1), (some (11, false)), none, [], none⟩,
  ⟨(some 13), .mv (.t 2), (some (11, false)), none, [], none⟩,
  ⟨(some 14), .call false 33 [(.t 12), (.t 13)], (some (11, false)), none, [], none⟩,
  ⟨(some 15), .un .not (.t 14), (some (11, false)), none, [], none⟩,
  ⟨(some 16), .pick (.t 11) (.k (.bool true)) (.t 15), none, none, [], none⟩]
def ac_ext_Clip_1 : AC := .reg l_ext_Clip_1
def l_ext_Clip_2 : List AOp := [⟨(some 6), .mv (.k (.slc [])), none, none, [], none⟩,
  ⟨(some 7), .mv (.k (.int .i64 1)), none, none, [], none⟩]
def ac_ext_Clip_2 : AC := .reg l_ext_Clip_2
def ac_ext_Clip_3 : AC := .seq ac_ext_Clip_2 .ret
def ac_ext_Clip_4 : AC := .cond (.t 16) ac_ext_Clip_3 .skip
def ac_ext_Clip_5 : AC := .seq ac_ext_Clip_1 ac_ext_Clip_4
def l_ext_Clip_6 : List AOp := [⟨(some 17), .mv (.t 0), none, none, [], none⟩,
  ⟨(some 18), .mv (.t 1), none, none, [], none⟩,
  ⟨(some 19), .mv (.t 1), none, none, [], none⟩,
  ⟨(some 20), .mv (.t 2), none, none, [], none⟩,
  ⟨(some 21), .bin .add (.t 19) (.t 20), none, none, [], none⟩,
  ⟨(some 22), .call false 36 [(.t 17), (.t 18), (.t 21)], none, none, [], none⟩,
  ⟨(some 6), .mv (.t 22), none, none, [], none⟩,
  ⟨(some 7), .mv (.k (.int .i64 0)), none, none, [], none⟩]
def ac_ext_Clip_6 : AC := .reg l_ext_Clip_6
def ac_ext_Clip_7 : AC := .seq ac_ext_Clip_6 .ret
def ac_ext_Clip_8 : AC := .seq ac_ext_Clip_5 ac_ext_Clip_7
def ac_ext_Clip_9 : AC := .seq ac_ext_Clip_0 ac_ext_Clip_8
def ac_ext_Clip : AC := ac_ext_Clip_9
theorem comp_ext_Clip : compF Try.prog [] (drawR Try.prog [] Try.f23.ntmps) [] 3 Try.f23 = some (ac_ext_Clip, [.t 6, .t 7]) := by kernel_rfl
def U_ext_Clip := (And.intro (And.intro (And.intro (And.intro @ac_ext_Clip.eq_1 (@mR _ _ ac_ext_Clip_0.eq_1)) (And.intro (@mR _ _ ac_ext_Clip_1.eq_1) (@mR _ _ ac_ext_Clip_2.eq_1))) (And.intro (And.intro (@mU _ _ ac_ext_Clip_3.eq_1) (@mU _ _ ac_ext_Clip_4.eq_1)) (And.intro (@mU _ _ ac_ext_Clip_5.eq_1) (@mR _ _ ac_ext_Clip_6.eq_1)))) (And.intro (And.intro (And.intro (@mU _ _ ac_ext_Clip_7.eq_1) (@mU _ _ ac_ext_Clip_8.eq_1)) (And.intro (@mU _ _ ac_ext_Clip_9.eq_1) @l_ext_Clip_0.eq_1)) (And.intro (And.intro @l_ext_Clip_1.eq_1 @l_ext_Clip_2.eq_1) @l_ext_Clip_6.eq_1)))

/- scoria/ext.Joined -/
def l_ext_Joined_0 : List AOp := [⟨(some 2), .box (.t 0), none, none, [], none⟩,
  ⟨(some 3), .box (.t 1), none, none, [], none⟩,
  ⟨(some 4), .alloc [(.int .i64 0), (.int .i64 0), (.int .i64 0), (.int .i64 0)], none, none, [], none⟩,
  ⟨(some 5), .mv (.k (.bool false)), none, none, [], none⟩]
def ac_ext_Joined_0 : AC := .reg l_ext_Joined_0
def l_ext_Joined_1 : List AOp := [⟨(some 6), .load (some 4) (.t 2), none, none, [], none⟩,
  ⟨(some 7), .call false 26 [(.t 6)], none, none, [], none⟩,
  ⟨(some 8), .un .not (.t 7), none, none, [], none⟩,
  ⟨(some 9), .mv (.t 8), none, none, [], none⟩,
  ⟨(some 10), .load (some 4) (.t 3), (some (9, false)), none, [], none⟩,
  ⟨(some 11), .call false 26 [(.t 10)], (some (9, false)), none, [], none⟩,
  ⟨(some 12), .un .not (.t 11), (some (9, false)), none, [], none⟩,
  ⟨(some 13), .pick (.t 9) (.k (.bool true)) (.t 12), none, none, [], none⟩,
  ⟨(some 14), .mv (.t 13), none, none, [], none⟩,
  ⟨(some 15), .load (some 4) (.t 2), (some (14, false)), none, [], none⟩,
  ⟨(some 16), .load (some 4) (.t 3), (some (14, false)), none, [], none⟩,
  ⟨(some 17), .call false 40 [(.t 15), (.t 16)], (some (14, false)), none, [], none⟩,
  ⟨(some 18), .un .not (.t 17), (some (14, false)), none, [], none⟩,
  ⟨(some 19), .pick (.t 14) (.k (.bool true)) (.t 18), none, none, [], none⟩]
def ac_ext_Joined_1 : AC := .reg l_ext_Joined_1
def l_ext_Joined_2 : List AOp := [⟨(some 20), .build [(.int .i64 0), (.int .i64 0), (.int .i64 0), (.int .i64 0)] [], none, none, [], none⟩,
  ⟨none, .store 4 (.t 4) (.t 20), none, none, [], none⟩,
  ⟨(some 5), .mv (.k (.bool false)), none, none, [], none⟩]
def ac_ext_Joined_2 : AC := .reg l_ext_Joined_2
def ac_ext_Joined_3 : AC := .seq ac_ext_Joined_2 .ret
def ac_ext_Joined_4 : AC := .cond (.t 19) ac_ext_Joined_3 .skip
def ac_ext_Joined_5 : AC := .seq ac_ext_Joined_1 ac_ext_Joined_4
def l_ext_Joined_6 : List AOp := [⟨(some 21), .faddr 1 (.t 2), none, none, [], none⟩,
  ⟨(some 22), .load none (.t 21), none, none, [], none⟩,
  ⟨(some 23), .faddr 1 (.t 3), none, none, [], none⟩,
  ⟨(some 24), .load none (.t 23), none, none, [], none⟩,
  ⟨(some 25), .bin .add (.t 22) (.t 24), none, none, [], none⟩,
  ⟨(some 26), .faddr 1 (.t 2), none, none, [], none⟩,
  ⟨none, .store 1 (.t 26) (.t 25), none, none, [], none⟩]
def ac_ext_Joined_6 : AC := .reg l_ext_Joined_6
def l_ext_Joined_7 : List AOp := [⟨(some 27), .load (some 4) (.t 2), none, none, [], none⟩,
  ⟨(some 28), .load (some 4) (.t 2), none, none, [], none⟩,
  ⟨(some 29), .call false 26 [(.t 28)], none, none, [], none⟩,
  ⟨none, .store 4 (.t 4) (.t 27), none, none, [], none⟩,
  ⟨(some 5), .mv (.t 29), none, none, [], none⟩]
def ac_ext_Joined_7 : AC := .dreg 0 l_ext_Joined_7
def ac_ext_Joined_8 : AC := .seq ac_ext_Joined_7 .ret
def ac_ext_Joined_9 : AC := .seq ac_ext_Joined_6 ac_ext_Joined_8
def ac_ext_Joined_10 : AC := .seq ac_ext_Joined_5 ac_ext_Joined_9
def ac_ext_Joined_11 : AC := .seq ac_ext_Joined_0 ac_ext_Joined_10
def ac_ext_Joined : AC := ac_ext_Joined_11
theorem comp_ext_Joined : compF Try.prog [] (drawR Try.prog [] Try.f24.ntmps) [] 2 Try.f24 = some (ac_ext_Joined, [.c 4 (some 4), .t 5]) := by kernel_rfl
def U_ext_Joined := (And.intro (And.intro (And.intro (And.intro (And.intro @ac_ext_Joined.eq_1 (@mR _ _ ac_ext_Joined_0.eq_1)) (@mR _ _ ac_ext_Joined_1.eq_1)) (And.intro (@mR _ _ ac_ext_Joined_2.eq_1) (@mU _ _ ac_ext_Joined_3.eq_1))) (And.intro (And.intro (@mU _ _ ac_ext_Joined_4.eq_1) (@mU _ _ ac_ext_Joined_5.eq_1)) (And.intro (@mR _ _ ac_ext_Joined_6.eq_1) (@mD _ _ _ ac_ext_Joined_7.eq_1)))) (And.intro (And.intro (And.intro (And.intro (@mU _ _ ac_ext_Joined_8.eq_1) (@mU _ _ ac_ext_Joined_9.eq_1)) (@mU _ _ ac_ext_Joined_10.eq_1)) (And.intro (@mU _ _ ac_ext_Joined_11.eq_1) @l_ext_Joined_0.eq_1)) (And.intro (And.intro @l_ext_Joined_1.eq_1 @l_ext_Joined_2.eq_1) (And.intro @l_ext_Joined_6.eq_1 @l_ext_Joined_7.eq_1))))

/- scoria/scoriaref07.Joined -/
def l_ref07_Joined_0 : List AOp := [⟨(some 2), .box (.t 0), none, none, [], none⟩,
  ⟨(some 3), .box (.t 1), none, none, [], none⟩,
  ⟨(some 4), .alloc [(.int .i64 0), (.int .i64 0), (.int .i64 0), (.int .i64 0)], none, none, [], none⟩,
  ⟨(some 5), .mv (.k (.bool false)), none, none, [], none⟩]
def ac_ref07_Joined_0 : AC := .reg l_ref07_Joined_0
def l_ref07_Joined_1 : List AOp := [⟨(some 6), .load (some 4) (.t 2), none, none, [], none⟩,
  ⟨(some 7), .call false 21 [(.t 6)], none, none, [], none⟩,
  ⟨(some 8), .un .not (.t 7), none, none, [], none⟩,
  ⟨(some 9), .mv (.t 8), none, none, [], none⟩,
  ⟨(some 10), .load (some 4) (.t 3), (some (9, false)), none, [], none⟩,
  ⟨(some 11), .call false 21 [(.t 10)], (some (9, false)), none, [], none⟩,
  ⟨(some 12), .un .not (.t 11), (some (9, false)), none, [], none⟩,
  ⟨(some 13), .pick (.t 9) (.k (.bool true)) (.t 12), none, none, [], none⟩,
  ⟨(some 14), .mv (.t 13), none, none, [], none⟩,
  ⟨(some 15), .load (some 4) (.t 2), (some (14, false)), none, [], none⟩,
  ⟨(some 16), .load (some 4) (.t 3), (some (14, false)), none, [], none⟩,
  ⟨(some 17), .call false 37 [(.t 15), (.t 16)], (some (14, false)), none, [], none⟩,
  ⟨(some 18), .un .not (.t 17), (some (14, false)), none, [], none⟩,
  ⟨(some 19), .pick (.t 14) (.k (.bool true)) (.t 18), none, none, [], none⟩]
def ac_ref07_Joined_1 : AC := .reg l_ref07_Joined_1
def l_ref07_Joined_2 : List AOp := [⟨(some 20), .build [(.int .i64 0), (.int .i64 0), (.int .i64 0), (.int .i64 0)] [], none, none, [], none⟩,
  ⟨none, .store 4 (.t 4) (.t 20), none, none, [], none⟩,
  ⟨(some 5), .mv (.k (.bool false)), none, none, [], none⟩]
def ac_ref07_Joined_2 : AC := .reg l_ref07_Joined_2
def ac_ref07_Joined_3 : AC := .seq ac_ref07_Joined_2 .ret
def ac_ref07_Joined_4 : AC := .cond (.t 19) ac_ref07_Joined_3 .skip
def ac_ref07_Joined_5 : AC := .seq ac_ref07_Joined_1 ac_ref07_Joined_4
def l_ref07_Joined_6 : List AOp := [⟨(some 21), .faddr 0 (.t 2), none, none, [], none⟩,
  ⟨(some 22), .load none (.t 21), none, none, [], none⟩,
  ⟨(some 23), .faddr 1 (.t 2), none, none, [], none⟩,
  ⟨(some 24), .load none (.t 23), none, none, [], none⟩,
  ⟨(some 25), .faddr 1 (.t 3), none, none, [], none⟩,
  ⟨(some 26), .load none (.t 25), none, none, [], none⟩,
  ⟨(some 27), .bin .add (.t 24) (.t 26), none, none, [], none⟩,
  ⟨(some 28), .faddr 2 (.t 2), none, none, [], none⟩,
  ⟨(some 29), .load none (.t 28), none, none, [], none⟩,
  ⟨(some 30), .faddr 3 (.t 2), none, none, [], none⟩,
  ⟨(some 31), .load none (.t 30), none, none, [], none⟩,
  ⟨(some 32), .build [(.int .i64 0), (.int .i64 0), (.int .i64 0), (.int .i64 0)] [(0, 1, (.t 22)), (1, 1, (.t 27)), (2, 1, (.t 29)), (3, 1, (.t 31))], none, none, [], none⟩,
  ⟨none, .store 4 (.t 4) (.t 32), none, none, [], none⟩,
  ⟨(some 5), .mv (.k (.bool true)), none, none, [], none⟩]
def ac_ref07_Joined_6 : AC := .reg l_ref07_Joined_6
def ac_ref07_Joined_7 : AC := .seq ac_ref07_Joined_6 .ret
def ac_ref07_Joined_8 : AC := .seq ac_ref07_Joined_5 ac_ref07_Joined_7
def ac_ref07_Joined_9 : AC := .seq ac_ref07_Joined_0 ac_ref07_Joined_8
def ac_ref07_Joined : AC := ac_ref07_Joined_9
theorem comp_ref07_Joined : compF Try.prog [] (drawR Try.prog [] Try.f25.ntmps) [] 2 Try.f25 = some (ac_ref07_Joined, [.c 4 (some 4), .t 5]) := by kernel_rfl
def U_ref07_Joined := (And.intro (And.intro (And.intro (And.intro @ac_ref07_Joined.eq_1 (@mR _ _ ac_ref07_Joined_0.eq_1)) (And.intro (@mR _ _ ac_ref07_Joined_1.eq_1) (@mR _ _ ac_ref07_Joined_2.eq_1))) (And.intro (And.intro (@mU _ _ ac_ref07_Joined_3.eq_1) (@mU _ _ ac_ref07_Joined_4.eq_1)) (And.intro (@mU _ _ ac_ref07_Joined_5.eq_1) (@mR _ _ ac_ref07_Joined_6.eq_1)))) (And.intro (And.intro (And.intro (@mU _ _ ac_ref07_Joined_7.eq_1) (@mU _ _ ac_ref07_Joined_8.eq_1)) (And.intro (@mU _ _ ac_ref07_Joined_9.eq_1) @l_ref07_Joined_0.eq_1)) (And.intro (And.intro @l_ref07_Joined_1.eq_1 @l_ref07_Joined_2.eq_1) @l_ref07_Joined_6.eq_1)))

/- scoria/ext.One -/
def l_ext_One_0 : List AOp := [⟨(some 1), .box (.t 0), none, none, [], none⟩,
  ⟨(some 2), .mv (.k (.bool false)), none, none, [], none⟩]
def ac_ext_One_0 : AC := .reg l_ext_One_0
def l_ext_One_1 : List AOp := [⟨(some 3), .faddr 0 (.t 1), none, none, [], none⟩,
  ⟨(some 4), .load none (.t 3), none, none, [], none⟩,
  ⟨(some 5), .faddr 1 (.t 1), none, none, [], none⟩,
  ⟨(some 6), .load none (.t 5), none, none, [], none⟩,
  ⟨(some 7), .call false 33 [(.t 4), (.t 6)], none, none, [], none⟩,
  ⟨(some 8), .un .not (.t 7), none, none, [], none⟩,
  ⟨(some 9), .mv (.t 8), none, none, [], none⟩,
  ⟨(some 10), .faddr 1 (.t 1), (some (9, false)), none, [], none⟩,
  ⟨(some 11), .load none (.t 10), (some (9, false)), none, [], none⟩,
  ⟨(some 12), .bin .lss (.t 11) (.k (.int .i64 1)), (some (9, false)), none, [], none⟩,
  ⟨(some 13), .pick (.t 9) (.k (.bool true)) (.t 12), none, none, [], none⟩]
def ac_ext_One_1 : AC := .reg l_ext_One_1
def l_ext_One_2 : List AOp := [⟨(some 2), .mv (.k (.bool false)), none, none, [], none⟩]
def ac_ext_One_2 : AC := .reg l_ext_One_2
def ac_ext_One_3 : AC := .seq ac_ext_One_2 .ret
def ac_ext_One_4 : AC := .cond (.t 13) ac_ext_One_3 .skip
def ac_ext_One_5 : AC := .seq ac_ext_One_1 ac_ext_One_4
def l_ext_One_6 : List AOp := [⟨(some 14), .faddr 2 (.t 1), none, none, [], none⟩,
  ⟨(some 15), .load none (.t 14), none, none, [], none⟩,
  ⟨(some 16), .bin .eql (.t 15) (.k (.int .i64 1)), none, none, [], none⟩]
def ac_ext_One_6 : AC := .reg l_ext_One_6
def l_ext_One_7 : List AOp := [⟨(some 17), .faddr 3 (.t 1), none, none, [], none⟩,
  ⟨(some 18), .load none (.t 17), none, none, [], none⟩,
  ⟨(some 19), .bin .eql (.t 18) (.k (.int .i64 0)), none, none, [], none⟩,
  ⟨(some 2), .mv (.t 19), none, none, [], none⟩]
def ac_ext_One_7 : AC := .reg l_ext_One_7
def ac_ext_One_8 : AC := .seq ac_ext_One_7 .ret
def ac_ext_One_9 : AC := .cond (.t 16) ac_ext_One_8 .skip
def ac_ext_One_10 : AC := .seq ac_ext_One_6 ac_ext_One_9
def l_ext_One_11 : List AOp := [⟨(some 20), .faddr 2 (.t 1), none, none, [], none⟩,
  ⟨(some 21), .load none (.t 20), none, none, [], none⟩,
  ⟨(some 22), .bin .eql (.t 21) (.k (.int .i64 2)), none, none, [], none⟩,
  ⟨(some 23), .mv (.t 22), none, none, [], none⟩,
  ⟨(some 24), .faddr 3 (.t 1), (some (23, true)), none, [], none⟩,
  ⟨(some 25), .load none (.t 24), (some (23, true)), none, [], none⟩,
  ⟨(some 26), .bin .geq (.t 25) (.k (.int .i64 0)), (some (23, true)), none, [], none⟩,
  ⟨(some 27), .pick (.t 23) (.t 26) (.k (.bool false)), none, none, [], none⟩,
  ⟨(some 28), .mv (.t 27), none, none, [], none⟩,
  ⟨(some 29), .faddr 3 (.t 1), (some (28, true)), none, [], none⟩,
  ⟨(some 30), .load none (.t 29), (some (28, true)), none, [], none⟩,
  ⟨(some 31), .bin .leq (.t 30) (.k (.int .i64 2048)), (some (28, true)), none, [], none⟩,
  ⟨(some 32), .pick (.t 28) (.t 31) (.k (.bool false)), none, none, [], none⟩,
  ⟨(some 33), .mv (.t 32), none, none, [], none⟩,
  ⟨(some 34), .faddr 1 (.t 1), (some (33, true)), none, [], none⟩,
  ⟨(some 35), .load none (.t 34), (some (33, true)), none, [], none⟩,
  ⟨(some 36), .faddr 3 (.t 1), (some (33, true)), none, [], none⟩,
  ⟨(some 37), .load none (.t 36), (some (33, true)), none, [], none⟩,
  ⟨(some 38), .bin .sub (.k (.int .i64 2048)) (.t 37), (some (33, true)), none, [], none⟩,
  ⟨(some 39), .bin .leq (.t 35) (.t 38), (some (33, true)), none, [], none⟩,
  ⟨(some 40), .pick (.t 33) (.t 39) (.k (.bool false)), none, none, [], none⟩,
  ⟨(some 2), .mv (.t 40), none, none, [], none⟩]
def ac_ext_One_11 : AC := .reg l_ext_One_11
def ac_ext_One_12 : AC := .seq ac_ext_One_11 .ret
def ac_ext_One_13 : AC := .seq ac_ext_One_10 ac_ext_One_12
def ac_ext_One_14 : AC := .seq ac_ext_One_5 ac_ext_One_13
def ac_ext_One_15 : AC := .seq ac_ext_One_0 ac_ext_One_14
def ac_ext_One : AC := ac_ext_One_15
theorem comp_ext_One : compF Try.prog [] (drawR Try.prog [] Try.f26.ntmps) [] 1 Try.f26 = some (ac_ext_One, [.t 2]) := by kernel_rfl
def U_ext_One := (And.intro (And.intro (And.intro (And.intro (And.intro @ac_ext_One.eq_1 (@mR _ _ ac_ext_One_0.eq_1)) (@mR _ _ ac_ext_One_1.eq_1)) (And.intro (And.intro (@mR _ _ ac_ext_One_2.eq_1) (@mU _ _ ac_ext_One_3.eq_1)) (@mU _ _ ac_ext_One_4.eq_1))) (And.intro (And.intro (And.intro (@mU _ _ ac_ext_One_5.eq_1) (@mR _ _ ac_ext_One_6.eq_1)) (@mR _ _ ac_ext_One_7.eq_1)) (And.intro (And.intro (@mU _ _ ac_ext_One_8.eq_1) (@mU _ _ ac_ext_One_9.eq_1)) (@mU _ _ ac_ext_One_10.eq_1)))) (And.intro (And.intro (And.intro (And.intro (@mR _ _ ac_ext_One_11.eq_1) (@mU _ _ ac_ext_One_12.eq_1)) (@mU _ _ ac_ext_One_13.eq_1)) (And.intro (And.intro (@mU _ _ ac_ext_One_14.eq_1) (@mU _ _ ac_ext_One_15.eq_1)) @l_ext_One_0.eq_1)) (And.intro (And.intro (And.intro @l_ext_One_1.eq_1 @l_ext_One_2.eq_1) @l_ext_One_6.eq_1) (And.intro @l_ext_One_7.eq_1 @l_ext_One_11.eq_1))))

/- scoria/ext.Check -/
def l_ext_Check_0 : List AOp := [⟨(some 2), .mv (.k (.bool false)), none, none, [], none⟩]
def ac_ext_Check_0 : AC := .reg l_ext_Check_0
def l_ext_Check_1 : List AOp := [⟨(some 5), .mv (.t 0), none, none, [], none⟩,
  ⟨(some 6), .len (.t 5), none, none, [], none⟩,
  ⟨(some 7), .mv (.k (.int .i64 0)), none, none, [], none⟩]
def ac_ext_Check_1 : AC := .reg l_ext_Check_1
def l_ext_Check_2 : List AOp := [⟨(some 8), .bin .lss (.t 7) (.t 6), none, none, [], none⟩]
def ac_ext_Check_2 : AC := .reg l_ext_Check_2
def ac_ext_Check_3 : AC := .cond (.t 8) .skip (.exit 0)
def l_ext_Check_4 : List AOp := [⟨(some 9), .mv (.t 7), none, none, [], none⟩,
  ⟨(some 10), .isl 4 (.t 5) (.t 7), none, none, [], none⟩,
  ⟨(some 11), .load (some 4) (.t 10), none, none, [], none⟩,
  ⟨(some 4), .alloc [(.int .i64 0), (.int .i64 0), (.int .i64 0), (.int .i64 0)], none, none, [], none⟩,
  ⟨(some 3), .mv (.t 9), none, none, [], none⟩,
  ⟨none, .store 4 (.t 4) (.t 11), none, none, [], none⟩]
def ac_ext_Check_4 : AC := .reg l_ext_Check_4
def l_ext_Check_5 : List AOp := [⟨(some 12), .load (some 4) (.t 4), none, none, [], none⟩,
  ⟨(some 13), .call false 26 [(.t 12)], none, none, [], none⟩,
  ⟨(some 14), .un .not (.t 13), none, none, [], none⟩,
  ⟨(some 15), .mv (.t 14), none, none, [], none⟩,
  ⟨(some 16), .mv (.t 3), (some (15, false)), none, [], none⟩,
  ⟨(some 17), .bin .gtr (.t 16) (.k (.int .i64 0)), (some (15, false)), none, [], none⟩,
  ⟨(some 18), .mv (.t 17), (some (15, false)), none, [], none⟩,
  ⟨(some 19), .mv (.t 0), (some (18, true)), none, [], none⟩,
  ⟨(some 20), .mv (.t 3), (some (18, true)), none, [], none⟩,
  ⟨(some 21), .bin .sub (.t 20) (.k (.int .i64 1)), (some (18, true)), none, [], none⟩,
  ⟨(some 22), .isl 4 (.t 19) (.t 21), (some (18, true)), none, [], none⟩,
  ⟨(some 23), .load (some 4) (.t 22), (some (18, true)), none, [], none⟩,
  ⟨(some 24), .call false 39 [(.t 23)], (some (18, true)), none, [], none⟩,
  ⟨(some 25), .faddr 0 (.t 4), (some (18, true)), none, [], none⟩,
  ⟨(some 26), .load none (.t 25), (some (18, true)), none, [], none⟩,
  ⟨(some 27), .bin .gtr (.t 24) (.t 26), (some (18, true)), none, [], none⟩,
  ⟨(some 28), .mv (.t 27), (some (18, true)), none, [], none⟩,
  ⟨(some 29), .mv (.t 0), (some (28, false)), none, [], none⟩,
  ⟨(some 30), .mv (.t 3), (some (28, false)), none, [], none⟩,
  ⟨(some 31), .bin .sub (.t 30) (.k (.int .i64 1)), (some (28, false)), none, [], none⟩,
  ⟨(some 32), .isl 4 (.t 29) (.t 31), (some (28, false)), none, [], none⟩,
  ⟨(some 33), .load (some 4) (.t 32), (some (28, false)), none, [], none⟩,
  ⟨(some 34), .load (some 4) (.t 4), (some (28, false)), none, [], none⟩,
  ⟨(some 35), .call false 40 [(.t 33), (.t 34)], (some (28, false)), none, [], none⟩,
  ⟨(some 36), .pick (.t 28) (.k (.bool true)) (.t 35), (some (18, true)), none, [], none⟩,
  ⟨(some 37), .pick (.t 18) (.t 36) (.k (.bool false)), (some (15, false)), none, [], none⟩,
  ⟨(some 38), .pick (.t 15) (.k (.bool true)) (.t 37), none, none, [], none⟩]
def ac_ext_Check_5 : AC := .dreg 0 l_ext_Check_5
def l_ext_Check_6 : List AOp := [⟨(some 2), .mv (.k (.bool false)), none, none, [], none⟩]
def ac_ext_Check_6 : AC := .reg l_ext_Check_6
def ac_ext_Check_7 : AC := .seq ac_ext_Check_6 .ret
def ac_ext_Check_8 : AC := .cond (.t 38) ac_ext_Check_7 .skip
def ac_ext_Check_9 : AC := .seq ac_ext_Check_5 ac_ext_Check_8
def ac_ext_Check_10 : AC := .seq ac_ext_Check_4 ac_ext_Check_9
def ac_ext_Check_11 : AC := .block 1 ac_ext_Check_10
def l_ext_Check_12 : List AOp := [⟨(some 39), .bin .add (.t 7) (.k (.int .i64 1)), none, none, [], none⟩,
  ⟨(some 7), .mv (.t 39), none, none, [], none⟩]
def ac_ext_Check_12 : AC := .reg l_ext_Check_12
def ac_ext_Check_13 : AC := .seq ac_ext_Check_11 ac_ext_Check_12
def ac_ext_Check_14 : AC := .seq ac_ext_Check_3 ac_ext_Check_13
def ac_ext_Check_15 : AC := .seq ac_ext_Check_2 ac_ext_Check_14
def ac_ext_Check_16 : AC := .loop [0, 5, 6, 7] 0 ac_ext_Check_15
def ac_ext_Check_17 : AC := .block 0 ac_ext_Check_16
def ac_ext_Check_18 : AC := .seq ac_ext_Check_1 ac_ext_Check_17
def l_ext_Check_19 : List AOp := [⟨(some 2), .mv (.k (.bool true)), none, none, [], none⟩]
def ac_ext_Check_19 : AC := .reg l_ext_Check_19
def ac_ext_Check_20 : AC := .seq ac_ext_Check_19 .ret
def ac_ext_Check_21 : AC := .seq ac_ext_Check_18 ac_ext_Check_20
def ac_ext_Check_22 : AC := .seq ac_ext_Check_0 ac_ext_Check_21
def ac_ext_Check : AC := ac_ext_Check_22
theorem comp_ext_Check : compF Try.prog [] (drawR Try.prog [] Try.f27.ntmps) [([0, 5, 6, 7], 0)] 1 Try.f27 = some (ac_ext_Check, [.t 2]) := by kernel_rfl
def U_ext_Check := (And.intro (And.intro (And.intro (And.intro (And.intro @ac_ext_Check.eq_1 (@mR _ _ ac_ext_Check_0.eq_1)) (And.intro (@mR _ _ ac_ext_Check_1.eq_1) (@mR _ _ ac_ext_Check_2.eq_1))) (And.intro (And.intro (@mU _ _ ac_ext_Check_3.eq_1) (@mR _ _ ac_ext_Check_4.eq_1)) (And.intro (@mD _ _ _ ac_ext_Check_5.eq_1) (@mR _ _ ac_ext_Check_6.eq_1)))) (And.intro (And.intro (And.intro (@mU _ _ ac_ext_Check_7.eq_1) (@mU _ _ ac_ext_Check_8.eq_1)) (And.intro (@mU _ _ ac_ext_Check_9.eq_1) (@mU _ _ ac_ext_Check_10.eq_1))) (And.intro (And.intro (@mU _ _ ac_ext_Check_11.eq_1) (@mR _ _ ac_ext_Check_12.eq_1)) (And.intro (@mU _ _ ac_ext_Check_13.eq_1) (@mU _ _ ac_ext_Check_14.eq_1))))) (And.intro (And.intro (And.intro (And.intro (@mU _ _ ac_ext_Check_15.eq_1) (@mU _ _ ac_ext_Check_16.eq_1)) (And.intro (@mU _ _ ac_ext_Check_17.eq_1) (@mU _ _ ac_ext_Check_18.eq_1))) (And.intro (And.intro (@mR _ _ ac_ext_Check_19.eq_1) (@mU _ _ ac_ext_Check_20.eq_1)) (And.intro (@mU _ _ ac_ext_Check_21.eq_1) (@mU _ _ ac_ext_Check_22.eq_1)))) (And.intro (And.intro (And.intro @l_ext_Check_0.eq_1 @l_ext_Check_1.eq_1) (And.intro @l_ext_Check_2.eq_1 @l_ext_Check_4.eq_1)) (And.intro (And.intro @l_ext_Check_5.eq_1 @l_ext_Check_6.eq_1) (And.intro @l_ext_Check_12.eq_1 @l_ext_Check_19.eq_1)))))

/- scoria/scorialaw07.say -/
def l_law07_say_0 : List AOp := [⟨(some 4), .alloc [(.int .i64 0), (.int .i64 0)], none, none, [], none⟩]
def ac_law07_say_0 : AC := .reg l_law07_say_0
def l_law07_say_1 : List AOp := [⟨(some 8), .mv (.t 0), none, none, [], none⟩,
  ⟨(some 9), .mv (.t 1), none, none, [], none⟩,
  ⟨(some 10), .call false 32 [(.t 8), (.t 9)], none, none, [], none⟩,
  ⟨(some 7), .mv (.t 10), none, none, [], none⟩,
  ⟨(some 11), .ext 0 (.t 7), none, none, [], none⟩,
  ⟨(some 12), .ext 1 (.t 7), none, none, [], none⟩,
  ⟨(some 5), .mv (.t 11), none, none, [], none⟩,
  ⟨(some 6), .mv (.t 12), none, none, [], none⟩]
def ac_law07_say_1 : AC := .reg l_law07_say_1
def l_law07_say_2 : List AOp := [⟨(some 13), .mv (.t 5), none, none, [], none⟩,
  ⟨(some 14), .mv (.t 6), none, none, [], none⟩,
  ⟨(some 15), .build [(.int .i64 0), (.int .i64 0)] [(0, 1, (.t 13)), (1, 1, (.t 14))], none, none, [], none⟩,
  ⟨none, .store 2 (.t 4) (.t 15), none, none, [], none⟩]
def ac_law07_say_2 : AC := .reg l_law07_say_2
def ac_law07_say_3 : AC := .seq ac_law07_say_2 .ret
def ac_law07_say_4 : AC := .seq ac_law07_say_1 ac_law07_say_3
def ac_law07_say_5 : AC := .seq ac_law07_say_0 ac_law07_say_4
def ac_law07_say : AC := ac_law07_say_5
theorem comp_law07_say : compF Try.prog [] (drawR Try.prog [] Try.f28.ntmps) [] 2 Try.f28 = some (ac_law07_say, [.c 4 (some 2)]) := by kernel_rfl
def U_law07_say := (And.intro (And.intro (And.intro (And.intro @ac_law07_say.eq_1 (@mR _ _ ac_law07_say_0.eq_1)) (@mR _ _ ac_law07_say_1.eq_1)) (And.intro (@mR _ _ ac_law07_say_2.eq_1) (@mU _ _ ac_law07_say_3.eq_1))) (And.intro (And.intro (And.intro (@mU _ _ ac_law07_say_4.eq_1) (@mU _ _ ac_law07_say_5.eq_1)) @l_law07_say_0.eq_1) (And.intro @l_law07_say_1.eq_1 @l_law07_say_2.eq_1)))

/- scoria/scoriaref07.Find -/
def l_ref07_Find_0 : List AOp := [⟨(some 4), .alloc [(.int .i64 0), (.int .i64 0)], none, none, [], none⟩]
def ac_ref07_Find_0 : AC := .reg l_ref07_Find_0
def l_ref07_Find_1 : List AOp := [⟨(some 5), .mv (.k (.int .i64 0)), none, none, [], none⟩]
def ac_ref07_Find_1 : AC := .reg l_ref07_Find_1
def l_ref07_Find_2 : List AOp := [⟨(some 6), .mv (.t 5), none, none, [], none⟩,
  ⟨(some 7), .mv (.t 0), none, none, [], none⟩,
  ⟨(some 8), .len (.t 7), none, none, [], none⟩,
  ⟨(some 9), .bin .lss (.t 6) (.t 8), none, none, [], none⟩]
def ac_ref07_Find_2 : AC := .reg l_ref07_Find_2
def ac_ref07_Find_3 : AC := .cond (.t 9) .skip (.exit 0)
def ac_ref07_Find_4 : AC := .seq ac_ref07_Find_2 ac_ref07_Find_3
def l_ref07_Find_5 : List AOp := [⟨(some 12), .mv (.t 1), none, none, [], none⟩,
  ⟨(some 13), .mv (.t 0), none, none, [], none⟩,
  ⟨(some 14), .mv (.t 5), none, none, [], none⟩,
  ⟨(some 15), .isl 4 (.t 13) (.t 14), none, none, [], none⟩,
  ⟨(some 16), .faddr 0 (.t 15), none, none, [], none⟩,
  ⟨(some 17), .load none (.t 16), none, none, [], none⟩,
  ⟨(some 18), .bin .geq (.t 12) (.t 17), none, none, [], none⟩,
  ⟨(some 19), .mv (.t 18), none, none, [], none⟩,
  ⟨(some 20), .mv (.t 1), (some (19, true)), none, [], none⟩,
  ⟨(some 21), .mv (.t 0), (some (19, true)), none, [], none⟩,
  ⟨(some 22), .mv (.t 5), (some (19, true)), none, [], none⟩,
  ⟨(some 23), .isl 4 (.t 21) (.t 22), (some (19, true)), none, [], none⟩,
  ⟨(some 24), .faddr 0 (.t 23), (some (19, true)), none, [], none⟩,
  ⟨(some 25), .load none (.t 24), (some (19, true)), none, [], none⟩,
  ⟨(some 26), .bin .sub (.t 20) (.t 25), (some (19, true)), none, [], none⟩,
  ⟨(some 27), .mv (.t 0), (some (19, true)), none, [], none⟩,
  ⟨(some 28), .mv (.t 5), (some (19, true)), none, [], none⟩,
  ⟨(some 29), .isl 4 (.t 27) (.t 28), (some (19, true)), none, [], none⟩,
  ⟨(some 30), .faddr 1 (.t 29), (some (19, true)), none, [], none⟩,
  ⟨(some 31), .load none (.t 30), (some (19, true)), none, [], none⟩,
  ⟨(some 32), .bin .lss (.t 26) (.t 31), (some (19, true)), none, [], none⟩,
  ⟨(some 33), .pick (.t 19) (.t 32) (.k (.bool false)), none, none, [], none⟩]
def ac_ref07_Find_5 : AC := .dreg 0 l_ref07_Find_5
def l_ref07_Find_6 : List AOp := [⟨(some 34), .mv (.t 0), none, none, [], none⟩,
  ⟨(some 35), .mv (.t 5), none, none, [], none⟩,
  ⟨(some 36), .isl 4 (.t 34) (.t 35), none, none, [], none⟩,
  ⟨(some 37), .faddr 2 (.t 36), none, none, [], none⟩,
  ⟨(some 38), .load none (.t 37), none, none, [], none⟩,
  ⟨(some 39), .bin .eql (.t 38) (.k (.int .i64 2)), none, none, [], none⟩]
def ac_ref07_Find_6 : AC := .reg l_ref07_Find_6
def l_ref07_Find_7 : List AOp := [⟨(some 40), .mv (.t 0), none, none, [], none⟩,
  ⟨(some 41), .mv (.t 5), none, none, [], none⟩,
  ⟨(some 42), .isl 4 (.t 40) (.t 41), none, none, [], none⟩,
  ⟨(some 43), .faddr 3 (.t 42), none, none, [], none⟩,
  ⟨(some 44), .load none (.t 43), none, none, [], none⟩,
  ⟨(some 45), .mv (.t 1), none, none, [], none⟩,
  ⟨(some 46), .bin .add (.t 44) (.t 45), none, none, [], none⟩,
  ⟨(some 47), .mv (.t 0), none, none, [], none⟩,
  ⟨(some 48), .mv (.t 5), none, none, [], none⟩,
  ⟨(some 49), .isl 4 (.t 47) (.t 48), none, none, [], none⟩,
  ⟨(some 50), .faddr 0 (.t 49), none, none, [], none⟩,
  ⟨(some 51), .load none (.t 50), none, none, [], none⟩,
  ⟨(some 52), .bin .sub (.t 46) (.t 51), none, none, [], none⟩,
  ⟨(some 53), .build [(.int .i64 0), (.int .i64 0)] [(0, 1, (.k (.int .i64 2))), (1, 1, (.t 52))], none, none, [], none⟩,
  ⟨none, .store 2 (.t 4) (.t 53), none, none, [], none⟩]
def ac_ref07_Find_7 : AC := .dreg 0 l_ref07_Find_7
def ac_ref07_Find_8 : AC := .seq ac_ref07_Find_7 .ret
def ac_ref07_Find_9 : AC := .cond (.t 39) ac_ref07_Find_8 .skip
def ac_ref07_Find_10 : AC := .seq ac_ref07_Find_6 ac_ref07_Find_9
def l_ref07_Find_11 : List AOp := [⟨(some 54), .mv (.t 0), none, none, [], none⟩,
  ⟨(some 55), .mv (.t 5), none, none, [], none⟩,
  ⟨(some 56), .isl 4 (.t 54) (.t 55), none, none, [], none⟩,
  ⟨(some 57), .faddr 2 (.t 56), none, none, [], none⟩,
  ⟨(some 58), .load none (.t 57), none, none, [], none⟩,
  ⟨(some 59), .build [(.int .i64 0), (.int .i64 0)] [(0, 1, (.t 58)), (1, 1, (.k (.int .i64 0)))], none, none, [], none⟩,
  ⟨none, .store 2 (.t 4) (.t 59), none, none, [], none⟩]
def ac_ref07_Find_11 : AC := .reg l_ref07_Find_11
def ac_ref07_Find_12 : AC := .seq ac_ref07_Find_11 .ret
def ac_ref07_Find_13 : AC := .seq ac_ref07_Find_10 ac_ref07_Find_12
def ac_ref07_Find_14 : AC := .cond (.t 33) ac_ref07_Find_13 .skip
def ac_ref07_Find_15 : AC := .seq ac_ref07_Find_5 ac_ref07_Find_14
def ac_ref07_Find_16 : AC := .block 1 ac_ref07_Find_15
def l_ref07_Find_17 : List AOp := [⟨(some 10), .mv (.t 5), none, none, [], none⟩,
  ⟨(some 11), .bin .add (.t 10) (.k (.int .i64 1)), none, none, [], none⟩,
  ⟨(some 5), .mv (.t 11), none, none, [], none⟩]
def ac_ref07_Find_17 : AC := .reg l_ref07_Find_17
def ac_ref07_Find_18 : AC := .seq ac_ref07_Find_16 ac_ref07_Find_17
def ac_ref07_Find_19 : AC := .seq ac_ref07_Find_4 ac_ref07_Find_18
def ac_ref07_Find_20 : AC := .loop [0, 1, 4, 5] 1 ac_ref07_Find_19
def ac_ref07_Find_21 : AC := .block 0 ac_ref07_Find_20
def ac_ref07_Find_22 : AC := .seq ac_ref07_Find_1 ac_ref07_Find_21
def l_ref07_Find_23 : List AOp := [⟨(some 60), .build [(.int .i64 0), (.int .i64 0)] [], none, none, [], none⟩,
  ⟨none, .store 2 (.t 4) (.t 60), none, none, [], none⟩]
def ac_ref07_Find_23 : AC := .reg l_ref07_Find_23
def ac_ref07_Find_24 : AC := .seq ac_ref07_Find_23 .ret
def ac_ref07_Find_25 : AC := .seq ac_ref07_Find_22 ac_ref07_Find_24
def ac_ref07_Find_26 : AC := .seq ac_ref07_Find_0 ac_ref07_Find_25
def ac_ref07_Find : AC := ac_ref07_Find_26
theorem comp_ref07_Find : compF Try.prog [] (drawR Try.prog [] Try.f29.ntmps) [([0, 1, 4, 5], 1)] 2 Try.f29 = some (ac_ref07_Find, [.c 4 (some 2)]) := by kernel_rfl
def U_ref07_Find := (And.intro (And.intro (And.intro (And.intro (And.intro (And.intro @ac_ref07_Find.eq_1 (@mR _ _ ac_ref07_Find_0.eq_1)) (@mR _ _ ac_ref07_Find_1.eq_1)) (And.intro (@mR _ _ ac_ref07_Find_2.eq_1) (@mU _ _ ac_ref07_Find_3.eq_1))) (And.intro (And.intro (And.intro (@mU _ _ ac_ref07_Find_4.eq_1) (@mD _ _ _ ac_ref07_Find_5.eq_1)) (@mR _ _ ac_ref07_Find_6.eq_1)) (And.intro (@mD _ _ _ ac_ref07_Find_7.eq_1) (@mU _ _ ac_ref07_Find_8.eq_1)))) (And.intro (And.intro (And.intro (And.intro (@mU _ _ ac_ref07_Find_9.eq_1) (@mU _ _ ac_ref07_Find_10.eq_1)) (@mR _ _ ac_ref07_Find_11.eq_1)) (And.intro (@mU _ _ ac_ref07_Find_12.eq_1) (@mU _ _ ac_ref07_Find_13.eq_1))) (And.intro (And.intro (@mU _ _ ac_ref07_Find_14.eq_1) (@mU _ _ ac_ref07_Find_15.eq_1)) (And.intro (@mU _ _ ac_ref07_Find_16.eq_1) (@mR _ _ ac_ref07_Find_17.eq_1))))) (And.intro (And.intro (And.intro (And.intro (And.intro (@mU _ _ ac_ref07_Find_18.eq_1) (@mU _ _ ac_ref07_Find_19.eq_1)) (@mU _ _ ac_ref07_Find_20.eq_1)) (And.intro (@mU _ _ ac_ref07_Find_21.eq_1) (@mU _ _ ac_ref07_Find_22.eq_1))) (And.intro (And.intro (@mR _ _ ac_ref07_Find_23.eq_1) (@mU _ _ ac_ref07_Find_24.eq_1)) (And.intro (@mU _ _ ac_ref07_Find_25.eq_1) (@mU _ _ ac_ref07_Find_26.eq_1)))) (And.intro (And.intro (And.intro (And.intro @l_ref07_Find_0.eq_1 @l_ref07_Find_1.eq_1) @l_ref07_Find_2.eq_1) (And.intro @l_ref07_Find_5.eq_1 @l_ref07_Find_6.eq_1)) (And.intro (And.intro @l_ref07_Find_7.eq_1 @l_ref07_Find_11.eq_1) (And.intro @l_ref07_Find_17.eq_1 @l_ref07_Find_23.eq_1)))))

/- scoria/ext.Count -/
def l_ext_Count_0 : List AOp := [⟨(some 2), .mv (.k (.int .i64 0)), none, none, [], none⟩]
def ac_ext_Count_0 : AC := .reg l_ext_Count_0
def l_ext_Count_1 : List AOp := [⟨(some 6), .mv (.t 0), none, none, [], none⟩,
  ⟨(some 7), .call false 27 [(.t 6)], none, none, [], none⟩,
  ⟨(some 8), .un .not (.t 7), none, none, [], none⟩]
def ac_ext_Count_1 : AC := .reg l_ext_Count_1
def l_ext_Count_2 : List AOp := [⟨(some 2), .mv (.k (.int .i64 0)), none, none, [], none⟩]
def ac_ext_Count_2 : AC := .reg l_ext_Count_2
def ac_ext_Count_3 : AC := .seq ac_ext_Count_2 .ret
def ac_ext_Count_4 : AC := .cond (.t 8) ac_ext_Count_3 .skip
def ac_ext_Count_5 : AC := .seq ac_ext_Count_1 ac_ext_Count_4
def l_ext_Count_6 : List AOp := [⟨(some 3), .mv (.k (.int .i64 0)), none, none, [], none⟩]
def ac_ext_Count_6 : AC := .reg l_ext_Count_6
def l_ext_Count_7 : List AOp := [⟨(some 9), .mv (.t 0), none, none, [], none⟩,
  ⟨(some 10), .len (.t 9), none, none, [], none⟩,
  ⟨(some 11), .mv (.k (.int .i64 0)), none, none, [], none⟩]
def ac_ext_Count_7 : AC := .reg l_ext_Count_7
def l_ext_Count_8 : List AOp := [⟨(some 12), .bin .lss (.t 11) (.t 10), none, none, [], none⟩]
def ac_ext_Count_8 : AC := .reg l_ext_Count_8
def ac_ext_Count_9 : AC := .cond (.t 12) .skip (.exit 0)
def l_ext_Count_10 : List AOp := [⟨(some 13), .isl 4 (.t 9) (.t 11), none, none, [], none⟩,
  ⟨(some 14), .load (some 4) (.t 13), none, none, [], none⟩,
  ⟨(some 5), .alloc [(.int .i64 0), (.int .i64 0), (.int .i64 0), (.int .i64 0)], none, none, [], none⟩,
  ⟨none, .store 4 (.t 5) (.t 14), none, none, [], none⟩]
def ac_ext_Count_10 : AC := .reg l_ext_Count_10
def l_ext_Count_11 : List AOp := [⟨(some 15), .mv (.t 3), none, none, [], none⟩,
  ⟨(some 16), .faddr 1 (.t 5), none, none, [], none⟩,
  ⟨(some 17), .load none (.t 16), none, none, [], none⟩,
  ⟨(some 18), .bin .add (.t 15) (.t 17), none, none, [], none⟩,
  ⟨(some 3), .mv (.t 18), none, none, [], none⟩]
def ac_ext_Count_11 : AC := .reg l_ext_Count_11
def ac_ext_Count_12 : AC := .seq ac_ext_Count_10 ac_ext_Count_11
def ac_ext_Count_13 : AC := .block 1 ac_ext_Count_12
def l_ext_Count_14 : List AOp := [⟨(some 19), .bin .add (.t 11) (.k (.int .i64 1)), none, none, [], none⟩,
  ⟨(some 11), .mv (.t 19), none, none, [], none⟩]
def ac_ext_Count_14 : AC := .reg l_ext_Count_14
def ac_ext_Count_15 : AC := .seq ac_ext_Count_13 ac_ext_Count_14
def ac_ext_Count_16 : AC := .seq ac_ext_Count_9 ac_ext_Count_15
def ac_ext_Count_17 : AC := .seq ac_ext_Count_8 ac_ext_Count_16
def ac_ext_Count_18 : AC := .loop [3, 9, 10, 11] 0 ac_ext_Count_17
def ac_ext_Count_19 : AC := .block 0 ac_ext_Count_18
def ac_ext_Count_20 : AC := .seq ac_ext_Count_7 ac_ext_Count_19
def l_ext_Count_21 : List AOp := [⟨(some 20), .mv (.t 3), none, none, [], none⟩,
  ⟨(some 2), .mv (.t 20), none, none, [], none⟩]
def ac_ext_Count_21 : AC := .reg l_ext_Count_21
def ac_ext_Count_22 : AC := .seq ac_ext_Count_21 .ret
def ac_ext_Count_23 : AC := .seq ac_ext_Count_20 ac_ext_Count_22
def ac_ext_Count_24 : AC := .seq ac_ext_Count_6 ac_ext_Count_23
def ac_ext_Count_25 : AC := .seq ac_ext_Count_5 ac_ext_Count_24
def ac_ext_Count_26 : AC := .seq ac_ext_Count_0 ac_ext_Count_25
def ac_ext_Count : AC := ac_ext_Count_26
theorem comp_ext_Count : compF Try.prog [] (drawR Try.prog [] Try.f30.ntmps) [([3, 9, 10, 11], 0)] 1 Try.f30 = some (ac_ext_Count, [.t 2]) := by kernel_rfl
def U_ext_Count := (And.intro (And.intro (And.intro (And.intro (And.intro (And.intro @ac_ext_Count.eq_1 (@mR _ _ ac_ext_Count_0.eq_1)) (@mR _ _ ac_ext_Count_1.eq_1)) (And.intro (@mR _ _ ac_ext_Count_2.eq_1) (@mU _ _ ac_ext_Count_3.eq_1))) (And.intro (And.intro (And.intro (@mU _ _ ac_ext_Count_4.eq_1) (@mU _ _ ac_ext_Count_5.eq_1)) (@mR _ _ ac_ext_Count_6.eq_1)) (And.intro (@mR _ _ ac_ext_Count_7.eq_1) (@mR _ _ ac_ext_Count_8.eq_1)))) (And.intro (And.intro (And.intro (And.intro (@mU _ _ ac_ext_Count_9.eq_1) (@mR _ _ ac_ext_Count_10.eq_1)) (@mR _ _ ac_ext_Count_11.eq_1)) (And.intro (@mU _ _ ac_ext_Count_12.eq_1) (@mU _ _ ac_ext_Count_13.eq_1))) (And.intro (And.intro (@mR _ _ ac_ext_Count_14.eq_1) (@mU _ _ ac_ext_Count_15.eq_1)) (And.intro (@mU _ _ ac_ext_Count_16.eq_1) (@mU _ _ ac_ext_Count_17.eq_1))))) (And.intro (And.intro (And.intro (And.intro (And.intro (@mU _ _ ac_ext_Count_18.eq_1) (@mU _ _ ac_ext_Count_19.eq_1)) (@mU _ _ ac_ext_Count_20.eq_1)) (And.intro (@mR _ _ ac_ext_Count_21.eq_1) (@mU _ _ ac_ext_Count_22.eq_1))) (And.intro (And.intro (And.intro (@mU _ _ ac_ext_Count_23.eq_1) (@mU _ _ ac_ext_Count_24.eq_1)) (@mU _ _ ac_ext_Count_25.eq_1)) (And.intro (@mU _ _ ac_ext_Count_26.eq_1) @l_ext_Count_0.eq_1))) (And.intro (And.intro (And.intro (And.intro @l_ext_Count_1.eq_1 @l_ext_Count_2.eq_1) @l_ext_Count_6.eq_1) (And.intro @l_ext_Count_7.eq_1 @l_ext_Count_8.eq_1)) (And.intro (And.intro @l_ext_Count_10.eq_1 @l_ext_Count_11.eq_1) (And.intro @l_ext_Count_14.eq_1 @l_ext_Count_21.eq_1)))))

/- scoria/ext.Pages -/
def l_ext_Pages_0 : List AOp := [⟨(some 2), .mv (.k (.slc [])), none, none, [], none⟩]
def ac_ext_Pages_0 : AC := .reg l_ext_Pages_0
def l_ext_Pages_1 : List AOp := [⟨(some 7), .mv (.t 0), none, none, [], none⟩,
  ⟨(some 8), .call false 27 [(.t 7)], none, none, [], none⟩,
  ⟨(some 9), .un .not (.t 8), none, none, [], none⟩]
def ac_ext_Pages_1 : AC := .reg l_ext_Pages_1
def l_ext_Pages_2 : List AOp := [⟨(some 2), .mv (.k (.slc [])), none, none, [], none⟩]
def ac_ext_Pages_2 : AC := .reg l_ext_Pages_2
def ac_ext_Pages_3 : AC := .seq ac_ext_Pages_2 .ret
def ac_ext_Pages_4 : AC := .cond (.t 9) ac_ext_Pages_3 .skip
def ac_ext_Pages_5 : AC := .seq ac_ext_Pages_1 ac_ext_Pages_4
def l_ext_Pages_6 : List AOp := [⟨(some 3), .nilown 1, none, none, [], none⟩]
def ac_ext_Pages_6 : AC := .reg l_ext_Pages_6
def l_ext_Pages_7 : List AOp := [⟨(some 10), .mv (.t 0), none, none, [], none⟩,
  ⟨(some 11), .len (.t 10), none, none, [], none⟩,
  ⟨(some 12), .mv (.k (.int .i64 0)), none, none, [], none⟩]
def ac_ext_Pages_7 : AC := .reg l_ext_Pages_7
def l_ext_Pages_8 : List AOp := [⟨(some 13), .bin .lss (.t 12) (.t 11), none, none, [], none⟩]
def ac_ext_Pages_8 : AC := .reg l_ext_Pages_8
def ac_ext_Pages_9 : AC := .cond (.t 13) .skip (.exit 0)
def l_ext_Pages_10 : List AOp := [⟨(some 14), .isl 4 (.t 10) (.t 12), none, none, [], none⟩,
  ⟨(some 15), .load (some 4) (.t 14), none, none, [], none⟩,
  ⟨(some 5), .alloc [(.int .i64 0), (.int .i64 0), (.int .i64 0), (.int .i64 0)], none, none, [], none⟩,
  ⟨none, .store 4 (.t 5) (.t 15), none, none, [], none⟩]
def ac_ext_Pages_10 : AC := .reg l_ext_Pages_10
def l_ext_Pages_11 : List AOp := [⟨(some 16), .faddr 1 (.t 5), none, none, [], none⟩,
  ⟨(some 17), .load none (.t 16), none, none, [], none⟩,
  ⟨(some 18), .mv (.k (.int .i64 0)), none, none, [], none⟩]
def ac_ext_Pages_11 : AC := .reg l_ext_Pages_11
def l_ext_Pages_12 : List AOp := [⟨(some 19), .bin .lss (.t 18) (.t 17), none, none, [], none⟩]
def ac_ext_Pages_12 : AC := .reg l_ext_Pages_12
def ac_ext_Pages_13 : AC := .cond (.t 19) .skip (.exit 2)
def l_ext_Pages_14 : List AOp := [⟨(some 20), .mv (.t 18), none, none, [], none⟩,
  ⟨(some 6), .mv (.t 20), none, none, [], none⟩]
def ac_ext_Pages_14 : AC := .reg l_ext_Pages_14
def l_ext_Pages_15 : List AOp := [⟨(some 21), .faddr 2 (.t 5), none, none, [], none⟩,
  ⟨(some 22), .load none (.t 21), none, none, [], none⟩,
  ⟨(some 23), .bin .eql (.t 22) (.k (.int .i64 2)), none, none, [], none⟩]
def ac_ext_Pages_15 : AC := .reg l_ext_Pages_15
def l_ext_Pages_16 : List AOp := [⟨(some 24), .mv (.t 3), none, none, [], none⟩,
  ⟨(some 25), .faddr 3 (.t 5), none, none, [], none⟩,
  ⟨(some 26), .load none (.t 25), none, none, [], none⟩,
  ⟨(some 27), .mv (.t 6), none, none, [], none⟩,
  ⟨(some 28), .bin .add (.t 26) (.t 27), none, none, [], none⟩,
  ⟨(some 29), .blds false [(.int .i64 0)] 1 [(0, (.t 28))], none, none, [], none⟩,
  ⟨(some 30), .app 1 8 [(.int .i64 0)] (.t 24) (.t 29), none, none, [], none⟩,
  ⟨(some 3), .mv (.t 30), none, none, [], none⟩]
def ac_ext_Pages_16 : AC := .reg l_ext_Pages_16
def ac_ext_Pages_17 : AC := .cond (.t 23) ac_ext_Pages_16 .skip
def ac_ext_Pages_18 : AC := .seq ac_ext_Pages_15 ac_ext_Pages_17
def ac_ext_Pages_19 : AC := .seq ac_ext_Pages_14 ac_ext_Pages_18
def ac_ext_Pages_20 : AC := .block 3 ac_ext_Pages_19
def l_ext_Pages_21 : List AOp := [⟨(some 31), .bin .add (.t 18) (.k (.int .i64 1)), none, none, [], none⟩,
  ⟨(some 18), .mv (.t 31), none, none, [], none⟩]
def ac_ext_Pages_21 : AC := .reg l_ext_Pages_21
def ac_ext_Pages_22 : AC := .seq ac_ext_Pages_20 ac_ext_Pages_21
def ac_ext_Pages_23 : AC := .seq ac_ext_Pages_13 ac_ext_Pages_22
def ac_ext_Pages_24 : AC := .seq ac_ext_Pages_12 ac_ext_Pages_23
def ac_ext_Pages_25 : AC := .loop [3, 5, 10, 11, 12, 17, 18] 2 ac_ext_Pages_24
def ac_ext_Pages_26 : AC := .block 2 ac_ext_Pages_25
def ac_ext_Pages_27 : AC := .seq ac_ext_Pages_11 ac_ext_Pages_26
def ac_ext_Pages_28 : AC := .seq ac_ext_Pages_10 ac_ext_Pages_27
def ac_ext_Pages_29 : AC := .block 1 ac_ext_Pages_28
def l_ext_Pages_30 : List AOp := [⟨(some 32), .bin .add (.t 12) (.k (.int .i64 1)), none, none, [], none⟩,
  ⟨(some 12), .mv (.t 32), none, none, [], none⟩]
def ac_ext_Pages_30 : AC := .reg l_ext_Pages_30
def ac_ext_Pages_31 : AC := .seq ac_ext_Pages_29 ac_ext_Pages_30
def ac_ext_Pages_32 : AC := .seq ac_ext_Pages_9 ac_ext_Pages_31
def ac_ext_Pages_33 : AC := .seq ac_ext_Pages_8 ac_ext_Pages_32
def ac_ext_Pages_34 : AC := .loop [3, 10, 11, 12] 1 ac_ext_Pages_33
def ac_ext_Pages_35 : AC := .block 0 ac_ext_Pages_34
def ac_ext_Pages_36 : AC := .seq ac_ext_Pages_7 ac_ext_Pages_35
def l_ext_Pages_37 : List AOp := [⟨(some 33), .mv (.t 3), none, none, [], none⟩,
  ⟨(some 2), .mv (.t 33), none, none, [], none⟩]
def ac_ext_Pages_37 : AC := .reg l_ext_Pages_37
def ac_ext_Pages_38 : AC := .seq ac_ext_Pages_37 .ret
def ac_ext_Pages_39 : AC := .seq ac_ext_Pages_36 ac_ext_Pages_38
def ac_ext_Pages_40 : AC := .seq ac_ext_Pages_6 ac_ext_Pages_39
def ac_ext_Pages_41 : AC := .seq ac_ext_Pages_5 ac_ext_Pages_40
def ac_ext_Pages_42 : AC := .seq ac_ext_Pages_0 ac_ext_Pages_41
def ac_ext_Pages : AC := ac_ext_Pages_42
theorem comp_ext_Pages : compF Try.prog [3] (drawR Try.prog [3] Try.f31.ntmps) [([3, 10, 11, 12], 1), ([3, 5, 10, 11, 12, 17, 18], 2)] 1 Try.f31 = some (ac_ext_Pages, [.t 2]) := by kernel_rfl
def U_ext_Pages := (And.intro (And.intro (And.intro (And.intro (And.intro (And.intro @ac_ext_Pages.eq_1 (@mR _ _ ac_ext_Pages_0.eq_1)) (And.intro (@mR _ _ ac_ext_Pages_1.eq_1) (@mR _ _ ac_ext_Pages_2.eq_1))) (And.intro (And.intro (@mU _ _ ac_ext_Pages_3.eq_1) (@mU _ _ ac_ext_Pages_4.eq_1)) (And.intro (@mU _ _ ac_ext_Pages_5.eq_1) (@mR _ _ ac_ext_Pages_6.eq_1)))) (And.intro (And.intro (And.intro (@mR _ _ ac_ext_Pages_7.eq_1) (@mR _ _ ac_ext_Pages_8.eq_1)) (And.intro (@mU _ _ ac_ext_Pages_9.eq_1) (@mR _ _ ac_ext_Pages_10.eq_1))) (And.intro (And.intro (@mR _ _ ac_ext_Pages_11.eq_1) (@mR _ _ ac_ext_Pages_12.eq_1)) (@mU _ _ ac_ext_Pages_13.eq_1)))) (And.intro (And.intro (And.intro (And.intro (@mR _ _ ac_ext_Pages_14.eq_1) (@mR _ _ ac_ext_Pages_15.eq_1)) (And.intro (@mR _ _ ac_ext_Pages_16.eq_1) (@mU _ _ ac_ext_Pages_17.eq_1))) (And.intro (And.intro (@mU _ _ ac_ext_Pages_18.eq_1) (@mU _ _ ac_ext_Pages_19.eq_1)) (And.intro (@mU _ _ ac_ext_Pages_20.eq_1) (@mR _ _ ac_ext_Pages_21.eq_1)))) (And.intro (And.intro (And.intro (@mU _ _ ac_ext_Pages_22.eq_1) (@mU _ _ ac_ext_Pages_23.eq_1)) (And.intro (@mU _ _ ac_ext_Pages_24.eq_1) (@mU _ _ ac_ext_Pages_25.eq_1))) (And.intro (And.intro (@mU _ _ ac_ext_Pages_26.eq_1) (@mU _ _ ac_ext_Pages_27.eq_1)) (@mU _ _ ac_ext_Pages_28.eq_1))))) (And.intro (And.intro (And.intro (And.intro (And.intro (@mU _ _ ac_ext_Pages_29.eq_1) (@mR _ _ ac_ext_Pages_30.eq_1)) (And.intro (@mU _ _ ac_ext_Pages_31.eq_1) (@mU _ _ ac_ext_Pages_32.eq_1))) (And.intro (And.intro (@mU _ _ ac_ext_Pages_33.eq_1) (@mU _ _ ac_ext_Pages_34.eq_1)) (And.intro (@mU _ _ ac_ext_Pages_35.eq_1) (@mU _ _ ac_ext_Pages_36.eq_1)))) (And.intro (And.intro (And.intro (@mR _ _ ac_ext_Pages_37.eq_1) (@mU _ _ ac_ext_Pages_38.eq_1)) (And.intro (@mU _ _ ac_ext_Pages_39.eq_1) (@mU _ _ ac_ext_Pages_40.eq_1))) (And.intro (And.intro (@mU _ _ ac_ext_Pages_41.eq_1) (@mU _ _ ac_ext_Pages_42.eq_1)) @l_ext_Pages_0.eq_1))) (And.intro (And.intro (And.intro (And.intro @l_ext_Pages_1.eq_1 @l_ext_Pages_2.eq_1) (And.intro @l_ext_Pages_6.eq_1 @l_ext_Pages_7.eq_1)) (And.intro (And.intro @l_ext_Pages_8.eq_1 @l_ext_Pages_10.eq_1) @l_ext_Pages_11.eq_1)) (And.intro (And.intro (And.intro @l_ext_Pages_12.eq_1 @l_ext_Pages_14.eq_1) (And.intro @l_ext_Pages_15.eq_1 @l_ext_Pages_16.eq_1)) (And.intro (And.intro @l_ext_Pages_21.eq_1 @l_ext_Pages_30.eq_1) @l_ext_Pages_37.eq_1)))))

/- scoria/ext.Find -/
def l_ext_Find_0 : List AOp := [⟨(some 3), .box (.t 1), none, none, [], none⟩,
  ⟨(some 4), .mv (.k (.int .i64 0)), none, none, [], none⟩,
  ⟨(some 5), .mv (.k (.int .i64 0)), none, none, [], none⟩]
def ac_ext_Find_0 : AC := .reg l_ext_Find_0
def l_ext_Find_1 : List AOp := [⟨(some 7), .mv (.t 0), none, none, [], none⟩,
  ⟨(some 8), .mkfn (.func 42) [] [(.t 3)], none, none, [], none⟩,
  ⟨(some 9), .call false 41 [(.t 7), (.t 8)], none, none, [], none⟩,
  ⟨(some 6), .mv (.t 9), none, none, [], none⟩]
def ac_ext_Find_1 : AC := .reg l_ext_Find_1
def l_ext_Find_2 : List AOp := [⟨(some 10), .mv (.t 6), none, none, [], none⟩,
  ⟨(some 11), .bin .lss (.t 10) (.k (.int .i64 0)), none, none, [], none⟩]
def ac_ext_Find_2 : AC := .reg l_ext_Find_2
def l_ext_Find_3 : List AOp := [⟨(some 4), .mv (.k (.int .i64 0)), none, none, [], none⟩,
  ⟨(some 5), .mv (.k (.int .i64 0)), none, none, [], none⟩]
def ac_ext_Find_3 : AC := .reg l_ext_Find_3
def ac_ext_Find_4 : AC := .seq ac_ext_Find_3 .ret
def ac_ext_Find_5 : AC := .cond (.t 11) ac_ext_Find_4 .skip
def ac_ext_Find_6 : AC := .seq ac_ext_Find_2 ac_ext_Find_5
def l_ext_Find_7 : List AOp := [⟨(some 12), .mv (.t 0), none, none, [], none⟩,
  ⟨(some 13), .mv (.t 6), none, none, [], none⟩,
  ⟨(some 14), .isl 4 (.t 12) (.t 13), none, none, [], none⟩,
  ⟨(some 15), .faddr 2 (.t 14), none, none, [], none⟩,
  ⟨(some 16), .load none (.t 15), none, none, [], none⟩,
  ⟨(some 17), .bin .neq (.t 16) (.k (.int .i64 2)), none, none, [], none⟩]
def ac_ext_Find_7 : AC := .reg l_ext_Find_7
def l_ext_Find_8 : List AOp := [⟨(some 18), .mv (.t 0), none, none, [], none⟩,
  ⟨(some 19), .mv (.t 6), none, none, [], none⟩,
  ⟨(some 20), .isl 4 (.t 18) (.t 19), none, none, [], none⟩,
  ⟨(some 21), .faddr 2 (.t 20), none, none, [], none⟩,
  ⟨(some 22), .load none (.t 21), none, none, [], none⟩,
  ⟨(some 4), .mv (.t 22), none, none, [], none⟩,
  ⟨(some 5), .mv (.k (.int .i64 0)), none, none, [], none⟩]
def ac_ext_Find_8 : AC := .reg l_ext_Find_8
def ac_ext_Find_9 : AC := .seq ac_ext_Find_8 .ret
def ac_ext_Find_10 : AC := .cond (.t 17) ac_ext_Find_9 .skip
def ac_ext_Find_11 : AC := .seq ac_ext_Find_7 ac_ext_Find_10
def l_ext_Find_12 : List AOp := [⟨(some 23), .mv (.t 0), none, none, [], none⟩,
  ⟨(some 24), .mv (.t 6), none, none, [], none⟩,
  ⟨(some 25), .isl 4 (.t 23) (.t 24), none, none, [], none⟩,
  ⟨(some 26), .faddr 2 (.t 25), none, none, [], none⟩,
  ⟨(some 27), .load none (.t 26), none, none, [], none⟩,
  ⟨(some 28), .mv (.t 0), none, none, [], none⟩,
  ⟨(some 29), .mv (.t 6), none, none, [], none⟩,
  ⟨(some 30), .isl 4 (.t 28) (.t 29), none, none, [], none⟩,
  ⟨(some 31), .faddr 3 (.t 30), none, none, [], none⟩,
  ⟨(some 32), .load none (.t 31), none, none, [], none⟩,
  ⟨(some 33), .load none (.t 3), none, none, [], none⟩,
  ⟨(some 34), .bin .add (.t 32) (.t 33), none, none, [], none⟩,
  ⟨(some 35), .mv (.t 0), none, none, [], none⟩,
  ⟨(some 36), .mv (.t 6), none, none, [], none⟩,
  ⟨(some 37), .isl 4 (.t 35) (.t 36), none, none, [], none⟩,
  ⟨(some 38), .faddr 0 (.t 37), none, none, [], none⟩,
  ⟨(some 39), .load none (.t 38), none, none, [], none⟩,
  ⟨(some 40), .bin .sub (.t 34) (.t 39), none, none, [], none⟩,
  ⟨(some 4), .mv (.t 27), none, none, [], none⟩,
  ⟨(some 5), .mv (.t 40), none, none, [], none⟩]
def ac_ext_Find_12 : AC := .dreg 0 l_ext_Find_12
def ac_ext_Find_13 : AC := .seq ac_ext_Find_12 .ret
def ac_ext_Find_14 : AC := .seq ac_ext_Find_11 ac_ext_Find_13
def ac_ext_Find_15 : AC := .seq ac_ext_Find_6 ac_ext_Find_14
def ac_ext_Find_16 : AC := .seq ac_ext_Find_1 ac_ext_Find_15
def ac_ext_Find_17 : AC := .seq ac_ext_Find_0 ac_ext_Find_16
def ac_ext_Find : AC := ac_ext_Find_17
theorem comp_ext_Find : compF Try.prog [] (drawR Try.prog [] Try.f32.ntmps) [] 2 Try.f32 = some (ac_ext_Find, [.t 4, .t 5]) := by kernel_rfl
def U_ext_Find := (And.intro (And.intro (And.intro (And.intro (And.intro @ac_ext_Find.eq_1 (@mR _ _ ac_ext_Find_0.eq_1)) (And.intro (@mR _ _ ac_ext_Find_1.eq_1) (@mR _ _ ac_ext_Find_2.eq_1))) (And.intro (And.intro (@mR _ _ ac_ext_Find_3.eq_1) (@mU _ _ ac_ext_Find_4.eq_1)) (@mU _ _ ac_ext_Find_5.eq_1))) (And.intro (And.intro (And.intro (@mU _ _ ac_ext_Find_6.eq_1) (@mR _ _ ac_ext_Find_7.eq_1)) (@mR _ _ ac_ext_Find_8.eq_1)) (And.intro (And.intro (@mU _ _ ac_ext_Find_9.eq_1) (@mU _ _ ac_ext_Find_10.eq_1)) (@mU _ _ ac_ext_Find_11.eq_1)))) (And.intro (And.intro (And.intro (And.intro (@mD _ _ _ ac_ext_Find_12.eq_1) (@mU _ _ ac_ext_Find_13.eq_1)) (And.intro (@mU _ _ ac_ext_Find_14.eq_1) (@mU _ _ ac_ext_Find_15.eq_1))) (And.intro (And.intro (@mU _ _ ac_ext_Find_16.eq_1) (@mU _ _ ac_ext_Find_17.eq_1)) @l_ext_Find_0.eq_1)) (And.intro (And.intro (And.intro @l_ext_Find_1.eq_1 @l_ext_Find_2.eq_1) @l_ext_Find_3.eq_1) (And.intro (And.intro @l_ext_Find_7.eq_1 @l_ext_Find_8.eq_1) @l_ext_Find_12.eq_1))))

/- scoria/ext.span -/
def l_ext_span_0 : List AOp := [⟨(some 4), .mv (.k (.bool false)), none, none, [], none⟩]
def ac_ext_span_0 : AC := .reg l_ext_span_0
def l_ext_span_1 : List AOp := [⟨(some 5), .mv (.t 0), none, none, [], none⟩,
  ⟨(some 6), .bin .geq (.t 5) (.k (.int .i64 0)), none, none, [], none⟩,
  ⟨(some 7), .mv (.t 6), none, none, [], none⟩,
  ⟨(some 8), .mv (.t 1), (some (7, true)), none, [], none⟩,
  ⟨(some 9), .bin .geq (.t 8) (.k (.int .i64 0)), (some (7, true)), none, [], none⟩,
  ⟨(some 10), .pick (.t 7) (.t 9) (.k (.bool false)), none, none, [], none⟩,
  ⟨(some 11), .mv (.t 10), none, none, [], none⟩,
  ⟨(some 12), .mv (.t 0), (some (11, true)), none, [], none⟩,
  ⟨(some 13), .bin .leq (.t 12) (.k (.int .i64 16777216)), (some (11, true)), none, [], none⟩,
  ⟨(some 14), .pick (.t 11) (.t 13) (.k (.bool false)), none, none, [], none⟩,
  ⟨(some 15), .mv (.t 14), none, none, [], none⟩,
  ⟨(some 16), .mv (.t 1), (some (15, true)), none, [], none⟩,
  ⟨(some 17), .mv (.t 0), (some (15, true)), none, [], none⟩,
  ⟨(some 18), .bin .sub (.k (.int .i64 16777216)) (.t 17), (some (15, true)), none, [], none⟩,
  ⟨(some 19), .bin .leq (.t 16) (.t 18), (some (15, true)), none, [], none⟩,
  ⟨(some 20), .pick (.t 15) (.t 19) (.k (.bool false)), none, none, [], none⟩,
  ⟨(some 4), .mv (.t 20), none, none, [], none⟩]
def ac_ext_span_1 : AC := .reg l_ext_span_1
def ac_ext_span_2 : AC := .seq ac_ext_span_1 .ret
def ac_ext_span_3 : AC := .seq ac_ext_span_0 ac_ext_span_2
def ac_ext_span : AC := ac_ext_span_3
theorem comp_ext_span : compF Try.prog [] (drawR Try.prog [] Try.f33.ntmps) [] 2 Try.f33 = some (ac_ext_span, [.t 4]) := by kernel_rfl
def U_ext_span := (And.intro (And.intro (And.intro @ac_ext_span.eq_1 (@mR _ _ ac_ext_span_0.eq_1)) (And.intro (@mR _ _ ac_ext_span_1.eq_1) (@mU _ _ ac_ext_span_2.eq_1))) (And.intro (And.intro (@mU _ _ ac_ext_span_3.eq_1) @l_ext_span_0.eq_1) @l_ext_span_1.eq_1))

/- scoria/ext.tidy -/
def l_ext_tidy_0 : List AOp := [⟨(some 2), .mv (.k (.slc [])), none, none, [], none⟩]
def ac_ext_tidy_0 : AC := .reg l_ext_tidy_0
def l_ext_tidy_1 : List AOp := [⟨(some 3), .nilown 4, none, none, [], none⟩]
def ac_ext_tidy_1 : AC := .reg l_ext_tidy_1
def l_ext_tidy_2 : List AOp := [⟨(some 7), .mv (.t 0), none, none, [], none⟩,
  ⟨(some 8), .len (.t 7), none, none, [], none⟩,
  ⟨(some 9), .mv (.k (.int .i64 0)), none, none, [], none⟩]
def ac_ext_tidy_2 : AC := .reg l_ext_tidy_2
def l_ext_tidy_3 : List AOp := [⟨(some 10), .bin .lss (.t 9) (.t 8), none, none, [], none⟩]
def ac_ext_tidy_3 : AC := .reg l_ext_tidy_3
def ac_ext_tidy_4 : AC := .cond (.t 10) .skip (.exit 0)
def l_ext_tidy_5 : List AOp := [⟨(some 11), .isl 4 (.t 7) (.t 9), none, none, [], none⟩,
  ⟨(some 12), .load (some 4) (.t 11), none, none, [], none⟩,
  ⟨(some 5), .alloc [(.int .i64 0), (.int .i64 0), (.int .i64 0), (.int .i64 0)], none, none, [], none⟩,
  ⟨none, .store 4 (.t 5) (.t 12), none, none, [], none⟩]
def ac_ext_tidy_5 : AC := .reg l_ext_tidy_5
def l_ext_tidy_6 : List AOp := [⟨(some 13), .mv (.t 3), none, none, [], none⟩,
  ⟨(some 14), .len (.t 13), none, none, [], none⟩,
  ⟨(some 15), .bin .sub (.t 14) (.k (.int .i64 1)), none, none, [], none⟩,
  ⟨(some 6), .mv (.t 15), none, none, [], none⟩]
def ac_ext_tidy_6 : AC := .reg l_ext_tidy_6
def l_ext_tidy_7 : List AOp := [⟨(some 16), .mv (.t 6), none, none, [], none⟩,
  ⟨(some 17), .bin .geq (.t 16) (.k (.int .i64 0)), none, none, [], none⟩,
  ⟨(some 18), .mv (.t 17), none, none, [], none⟩,
  ⟨(some 19), .mv (.t 3), (some (18, true)), none, [], none⟩,
  ⟨(some 20), .mv (.t 6), (some (18, true)), none, [], none⟩,
  ⟨(some 21), .isl 4 (.t 19) (.t 20), (some (18, true)), none, [], none⟩,
  ⟨(some 22), .load (some 4) (.t 21), (some (18, true)), none, [], none⟩,
  ⟨(some 23), .load (some 4) (.t 5), (some (18, true)), none, [], none⟩,
  ⟨(some 24), .call false 40 [(.t 22), (.t 23)], (some (18, true)), none, [], none⟩,
  ⟨(some 25), .pick (.t 18) (.t 24) (.k (.bool false)), none, none, [], none⟩]
def ac_ext_tidy_7 : AC := .dreg 0 l_ext_tidy_7
def l_ext_tidy_8 : List AOp := [⟨(some 26), .mv (.t 3), none, none, [], none⟩,
  ⟨(some 27), .mv (.t 6), none, none, [], none⟩,
  ⟨(some 28), .isl 4 (.t 26) (.t 27), none, none, [], none⟩,
  ⟨(some 29), .faddr 1 (.t 28), none, none, [], none⟩,
  ⟨(some 30), .load none (.t 29), none, none, [], none⟩,
  ⟨(some 31), .faddr 1 (.t 5), none, none, [], none⟩,
  ⟨(some 32), .load none (.t 31), none, none, [], none⟩,
  ⟨(some 33), .bin .add (.t 30) (.t 32), none, none, [], none⟩,
  ⟨(some 34), .isl 4 (.t 26) (.t 27), none, none, [], none⟩,
  ⟨(some 35), .faddr 1 (.t 34), none, none, [], none⟩,
  ⟨none, .store 1 (.t 35) (.t 33), none, none, [], none⟩]
def ac_ext_tidy_8 : AC := .dreg 0 l_ext_tidy_8
def ac_ext_tidy_9 : AC := .seq ac_ext_tidy_8 (.exit 1)
def ac_ext_tidy_10 : AC := .cond (.t 25) ac_ext_tidy_9 .skip
def ac_ext_tidy_11 : AC := .seq ac_ext_tidy_7 ac_ext_tidy_10
def ac_ext_tidy_12 : AC := .seq ac_ext_tidy_6 ac_ext_tidy_11
def l_ext_tidy_13 : List AOp := [⟨(some 36), .mv (.t 3), none, none, [], none⟩,
  ⟨(some 37), .load (some 4) (.t 5), none, none, [], none⟩,
  ⟨(some 38), .blds false [(.int .i64 0), (.int .i64 0), (.int .i64 0), (.int .i64 0)] 1 [(0, (.t 37))], none, none, [], none⟩,
  ⟨(some 39), .app 4 32 [(.int .i64 0), (.int .i64 0), (.int .i64 0), (.int .i64 0)] (.t 36) (.t 38), none, none, [], none⟩,
  ⟨(some 3), .mv (.t 39), none, none, [], none⟩]
def ac_ext_tidy_13 : AC := .reg l_ext_tidy_13
def ac_ext_tidy_14 : AC := .seq ac_ext_tidy_12 ac_ext_tidy_13
def ac_ext_tidy_15 : AC := .seq ac_ext_tidy_5 ac_ext_tidy_14
def ac_ext_tidy_16 : AC := .block 1 ac_ext_tidy_15
def l_ext_tidy_17 : List AOp := [⟨(some 40), .bin .add (.t 9) (.k (.int .i64 1)), none, none, [], none⟩,
  ⟨(some 9), .mv (.t 40), none, none, [], none⟩]
def ac_ext_tidy_17 : AC := .reg l_ext_tidy_17
def ac_ext_tidy_18 : AC := .seq ac_ext_tidy_16 ac_ext_tidy_17
def ac_ext_tidy_19 : AC := .seq ac_ext_tidy_4 ac_ext_tidy_18
def ac_ext_tidy_20 : AC := .seq ac_ext_tidy_3 ac_ext_tidy_19
def ac_ext_tidy_21 : AC := .loop [3, 7, 8, 9] 1 ac_ext_tidy_20
def ac_ext_tidy_22 : AC := .block 0 ac_ext_tidy_21
def ac_ext_tidy_23 : AC := .seq ac_ext_tidy_2 ac_ext_tidy_22
def l_ext_tidy_24 : List AOp := [⟨(some 41), .mv (.t 3), none, none, [], none⟩,
  ⟨(some 2), .mv (.t 41), none, none, [], none⟩]
def ac_ext_tidy_24 : AC := .reg l_ext_tidy_24
def ac_ext_tidy_25 : AC := .seq ac_ext_tidy_24 .ret
def ac_ext_tidy_26 : AC := .seq ac_ext_tidy_23 ac_ext_tidy_25
def ac_ext_tidy_27 : AC := .seq ac_ext_tidy_1 ac_ext_tidy_26
def ac_ext_tidy_28 : AC := .seq ac_ext_tidy_0 ac_ext_tidy_27
def ac_ext_tidy : AC := ac_ext_tidy_28
theorem comp_ext_tidy : compF Try.prog [3] (drawR Try.prog [3] Try.f34.ntmps) [([3, 7, 8, 9], 1)] 1 Try.f34 = some (ac_ext_tidy, [.t 2]) := by kernel_rfl
def U_ext_tidy := (And.intro (And.intro (And.intro (And.intro (And.intro (And.intro @ac_ext_tidy.eq_1 (@mR _ _ ac_ext_tidy_0.eq_1)) (@mR _ _ ac_ext_tidy_1.eq_1)) (And.intro (And.intro (@mR _ _ ac_ext_tidy_2.eq_1) (@mR _ _ ac_ext_tidy_3.eq_1)) (@mU _ _ ac_ext_tidy_4.eq_1))) (And.intro (And.intro (And.intro (@mR _ _ ac_ext_tidy_5.eq_1) (@mR _ _ ac_ext_tidy_6.eq_1)) (@mD _ _ _ ac_ext_tidy_7.eq_1)) (And.intro (@mD _ _ _ ac_ext_tidy_8.eq_1) (@mU _ _ ac_ext_tidy_9.eq_1)))) (And.intro (And.intro (And.intro (And.intro (@mU _ _ ac_ext_tidy_10.eq_1) (@mU _ _ ac_ext_tidy_11.eq_1)) (@mU _ _ ac_ext_tidy_12.eq_1)) (And.intro (@mR _ _ ac_ext_tidy_13.eq_1) (@mU _ _ ac_ext_tidy_14.eq_1))) (And.intro (And.intro (And.intro (@mU _ _ ac_ext_tidy_15.eq_1) (@mU _ _ ac_ext_tidy_16.eq_1)) (@mR _ _ ac_ext_tidy_17.eq_1)) (And.intro (@mU _ _ ac_ext_tidy_18.eq_1) (@mU _ _ ac_ext_tidy_19.eq_1))))) (And.intro (And.intro (And.intro (And.intro (And.intro (@mU _ _ ac_ext_tidy_20.eq_1) (@mU _ _ ac_ext_tidy_21.eq_1)) (@mU _ _ ac_ext_tidy_22.eq_1)) (And.intro (@mU _ _ ac_ext_tidy_23.eq_1) (@mR _ _ ac_ext_tidy_24.eq_1))) (And.intro (And.intro (And.intro (@mU _ _ ac_ext_tidy_25.eq_1) (@mU _ _ ac_ext_tidy_26.eq_1)) (@mU _ _ ac_ext_tidy_27.eq_1)) (And.intro (@mU _ _ ac_ext_tidy_28.eq_1) @l_ext_tidy_0.eq_1))) (And.intro (And.intro (And.intro (And.intro @l_ext_tidy_1.eq_1 @l_ext_tidy_2.eq_1) @l_ext_tidy_3.eq_1) (And.intro @l_ext_tidy_5.eq_1 @l_ext_tidy_6.eq_1)) (And.intro (And.intro (And.intro @l_ext_tidy_7.eq_1 @l_ext_tidy_8.eq_1) @l_ext_tidy_13.eq_1) (And.intro @l_ext_tidy_17.eq_1 @l_ext_tidy_24.eq_1)))))

/- slices.Concat[[]scoria/api.Ext,scoria/api.Ext] -/
def l_slices_Concat_api_Ext_0 : List AOp := [⟨(some 2), .mv (.k (.slc [])), none, none, [], none⟩]
def ac_slices_Concat_api_Ext_0 : AC := .reg l_slices_Concat_api_Ext_0
def l_slices_Concat_api_Ext_1 : List AOp := [⟨(some 3), .mv (.k (.int .i64 0)), none, none, [], none⟩]
def ac_slices_Concat_api_Ext_1 : AC := .reg l_slices_Concat_api_Ext_1
def l_slices_Concat_api_Ext_2 : List AOp := [⟨(some 9), .mv (.t 0), none, none, [], none⟩,
  ⟨(some 10), .len (.t 9), none, none, [], none⟩,
  ⟨(some 11), .mv (.k (.int .i64 0)), none, none, [], none⟩]
def ac_slices_Concat_api_Ext_2 : AC := .reg l_slices_Concat_api_Ext_2
def l_slices_Concat_api_Ext_3 : List AOp := [⟨(some 12), .bin .lss (.t 11) (.t 10), none, none, [], none⟩]
def ac_slices_Concat_api_Ext_3 : AC := .reg l_slices_Concat_api_Ext_3
def ac_slices_Concat_api_Ext_4 : AC := .cond (.t 12) .skip (.exit 0)
def l_slices_Concat_api_Ext_5 : List AOp := [⟨(some 13), .isl 1 (.t 9) (.t 11), none, none, [], none⟩,
  ⟨(some 14), .load none (.t 13), none, none, [], none⟩,
  ⟨(some 5), .mv (.t 14), none, none, [], none⟩]
def ac_slices_Concat_api_Ext_5 : AC := .reg l_slices_Concat_api_Ext_5
def l_slices_Concat_api_Ext_6 : List AOp := [⟨(some 15), .mv (.t 3), none, none, [], none⟩,
  ⟨(some 16), .mv (.t 5), none, none, [], none⟩,
  ⟨(some 17), .len (.t 16), none, none, [], none⟩,
  ⟨(some 18), .bin .add (.t 15) (.t 17), none, none, [], none⟩,
  ⟨(some 3), .mv (.t 18), none, none, [], none⟩]
def ac_slices_Concat_api_Ext_6 : AC := .reg l_slices_Concat_api_Ext_6
def l_slices_Concat_api_Ext_7 : List AOp := [⟨(some 19), .mv (.t 3), none, none, [], none⟩,
  ⟨(some 20), .bin .lss (.t 19) (.k (.int .i64 0)), none, none, [], none⟩]
def ac_slices_Concat_api_Ext_7 : AC := .reg l_slices_Concat_api_Ext_7
def l_slices_Concat_api_Ext_8 : List AOp := [⟨(some 21), .fail, none, none, [], none⟩,
  ⟨none, .fail, none, none, [], none⟩]
def ac_slices_Concat_api_Ext_8 : AC := .reg l_slices_Concat_api_Ext_8
def ac_slices_Concat_api_Ext_9 : AC := .cond (.t 20) ac_slices_Concat_api_Ext_8 .skip
def ac_slices_Concat_api_Ext_10 : AC := .seq ac_slices_Concat_api_Ext_7 ac_slices_Concat_api_Ext_9
def ac_slices_Concat_api_Ext_11 : AC := .seq ac_slices_Concat_api_Ext_6 ac_slices_Concat_api_Ext_10
def ac_slices_Concat_api_Ext_12 : AC := .seq ac_slices_Concat_api_Ext_5 ac_slices_Concat_api_Ext_11
def ac_slices_Concat_api_Ext_13 : AC := .block 1 ac_slices_Concat_api_Ext_12
def l_slices_Concat_api_Ext_14 : List AOp := [⟨(some 22), .bin .add (.t 11) (.k (.int .i64 1)), none, none, [], none⟩,
  ⟨(some 11), .mv (.t 22), none, none, [], none⟩]
def ac_slices_Concat_api_Ext_14 : AC := .reg l_slices_Concat_api_Ext_14
def ac_slices_Concat_api_Ext_15 : AC := .seq ac_slices_Concat_api_Ext_13 ac_slices_Concat_api_Ext_14
def ac_slices_Concat_api_Ext_16 : AC := .seq ac_slices_Concat_api_Ext_4 ac_slices_Concat_api_Ext_15
def ac_slices_Concat_api_Ext_17 : AC := .seq ac_slices_Concat_api_Ext_3 ac_slices_Concat_api_Ext_16
def ac_slices_Concat_api_Ext_18 : AC := .loop [0, 3, 9, 10, 11] 0 ac_slices_Concat_api_Ext_17
def ac_slices_Concat_api_Ext_19 : AC := .block 0 ac_slices_Concat_api_Ext_18
def ac_slices_Concat_api_Ext_20 : AC := .seq ac_slices_Concat_api_Ext_2 ac_slices_Concat_api_Ext_19
def l_slices_Concat_api_Ext_21 : List AOp := [⟨(some 23), .mv (.t 3), none, none, [], none⟩,
  ⟨(some 24), .call true 43 [(.k .nils), (.t 23)], none, none, [], none⟩,
  ⟨(some 6), .mv (.t 24), none, none, [], none⟩]
def ac_slices_Concat_api_Ext_21 : AC := .reg l_slices_Concat_api_Ext_21
def l_slices_Concat_api_Ext_22 : List AOp := [⟨(some 25), .mv (.t 0), none, none, [], none⟩,
  ⟨(some 26), .len (.t 25), none, none, [], none⟩,
  ⟨(some 27), .mv (.k (.int .i64 0)), none, none, [], none⟩]
def ac_slices_Concat_api_Ext_22 : AC := .reg l_slices_Concat_api_Ext_22
def l_slices_Concat_api_Ext_23 : List AOp := [⟨(some 28), .bin .lss (.t 27) (.t 26), none, none, [], none⟩]
def ac_slices_Concat_api_Ext_23 : AC := .reg l_slices_Concat_api_Ext_23
def ac_slices_Concat_api_Ext_24 : AC := .cond (.t 28) .skip (.exit 2)
def l_slices_Concat_api_Ext_25 : List AOp := [⟨(some 29), .isl 1 (.t 25) (.t 27), none, none, [], none⟩,
  ⟨(some 30), .load none (.t 29), none, none, [], none⟩,
  ⟨(some 8), .mv (.t 30), none, none, [], none⟩]
def ac_slices_Concat_api_Ext_25 : AC := .reg l_slices_Concat_api_Ext_25
def l_slices_Concat_api_Ext_26 : List AOp := [⟨(some 31), .mv (.t 6), none, none, [], none⟩,
  ⟨(some 32), .mv (.t 8), none, none, [], none⟩,
  ⟨(some 33), .app 4 32 [(.int .i64 0), (.int .i64 0), (.int .i64 0), (.int .i64 0)] (.t 31) (.t 32), none, none, [], none⟩,
  ⟨(some 6), .mv (.t 33), none, none, [], none⟩]
def ac_slices_Concat_api_Ext_26 : AC := .reg l_slices_Concat_api_Ext_26
def ac_slices_Concat_api_Ext_27 : AC := .seq ac_slices_Concat_api_Ext_25 ac_slices_Concat_api_Ext_26
def ac_slices_Concat_api_Ext_28 : AC := .block 3 ac_slices_Concat_api_Ext_27
def l_slices_Concat_api_Ext_29 : List AOp := [⟨(some 34), .bin .add (.t 27) (.k (.int .i64 1)), none, none, [], none⟩,
  ⟨(some 27), .mv (.t 34), none, none, [], none⟩]
def ac_slices_Concat_api_Ext_29 : AC := .reg l_slices_Concat_api_Ext_29
def ac_slices_Concat_api_Ext_30 : AC := .seq ac_slices_Concat_api_Ext_28 ac_slices_Concat_api_Ext_29
def ac_slices_Concat_api_Ext_31 : AC := .seq ac_slices_Concat_api_Ext_24 ac_slices_Concat_api_Ext_30
def ac_slices_Concat_api_Ext_32 : AC := .seq ac_slices_Concat_api_Ext_23 ac_slices_Concat_api_Ext_31
def ac_slices_Concat_api_Ext_33 : AC := .loop [6, 25, 26, 27] 1 ac_slices_Concat_api_Ext_32
def ac_slices_Concat_api_Ext_34 : AC := .block 2 ac_slices_Concat_api_Ext_33
def ac_slices_Concat_api_Ext_35 : AC := .seq ac_slices_Concat_api_Ext_22 ac_slices_Concat_api_Ext_34
def l_slices_Concat_api_Ext_36 : List AOp := [⟨(some 35), .mv (.t 6), none, none, [], none⟩,
  ⟨(some 2), .mv (.t 35), none, none, [], none⟩]
def ac_slices_Concat_api_Ext_36 : AC := .reg l_slices_Concat_api_Ext_36
def ac_slices_Concat_api_Ext_37 : AC := .seq ac_slices_Concat_api_Ext_36 .ret
def ac_slices_Concat_api_Ext_38 : AC := .seq ac_slices_Concat_api_Ext_35 ac_slices_Concat_api_Ext_37
def ac_slices_Concat_api_Ext_39 : AC := .seq ac_slices_Concat_api_Ext_21 ac_slices_Concat_api_Ext_38
def ac_slices_Concat_api_Ext_40 : AC := .seq ac_slices_Concat_api_Ext_20 ac_slices_Concat_api_Ext_39
def ac_slices_Concat_api_Ext_41 : AC := .seq ac_slices_Concat_api_Ext_1 ac_slices_Concat_api_Ext_40
def ac_slices_Concat_api_Ext_42 : AC := .seq ac_slices_Concat_api_Ext_0 ac_slices_Concat_api_Ext_41
def ac_slices_Concat_api_Ext : AC := ac_slices_Concat_api_Ext_42
theorem comp_slices_Concat_api_Ext : compF Try.prog [24, 3000043] (drawR Try.prog [24, 3000043] Try.f35.ntmps) [([0, 3, 9, 10, 11], 0), ([6, 25, 26, 27], 1)] 1 Try.f35 = some (ac_slices_Concat_api_Ext, [.t 2]) := by kernel_rfl
def U_slices_Concat_api_Ext := (And.intro (And.intro (And.intro (And.intro (And.intro (And.intro @ac_slices_Concat_api_Ext.eq_1 (@mR _ _ ac_slices_Concat_api_Ext_0.eq_1)) (And.intro (@mR _ _ ac_slices_Concat_api_Ext_1.eq_1) (@mR _ _ ac_slices_Concat_api_Ext_2.eq_1))) (And.intro (And.intro (@mR _ _ ac_slices_Concat_api_Ext_3.eq_1) (@mU _ _ ac_slices_Concat_api_Ext_4.eq_1)) (And.intro (@mR _ _ ac_slices_Concat_api_Ext_5.eq_1) (@mR _ _ ac_slices_Concat_api_Ext_6.eq_1)))) (And.intro (And.intro (And.intro (@mR _ _ ac_slices_Concat_api_Ext_7.eq_1) (@mR _ _ ac_slices_Concat_api_Ext_8.eq_1)) (And.intro (@mU _ _ ac_slices_Concat_api_Ext_9.eq_1) (@mU _ _ ac_slices_Concat_api_Ext_10.eq_1))) (And.intro (And.intro (@mU _ _ ac_slices_Concat_api_Ext_11.eq_1) (@mU _ _ ac_slices_Concat_api_Ext_12.eq_1)) (@mU _ _ ac_slices_Concat_api_Ext_13.eq_1)))) (And.intro (And.intro (And.intro (And.intro (@mR _ _ ac_slices_Concat_api_Ext_14.eq_1) (@mU _ _ ac_slices_Concat_api_Ext_15.eq_1)) (And.intro (@mU _ _ ac_slices_Concat_api_Ext_16.eq_1) (@mU _ _ ac_slices_Concat_api_Ext_17.eq_1))) (And.intro (And.intro (@mU _ _ ac_slices_Concat_api_Ext_18.eq_1) (@mU _ _ ac_slices_Concat_api_Ext_19.eq_1)) (And.intro (@mU _ _ ac_slices_Concat_api_Ext_20.eq_1) (@mR _ _ ac_slices_Concat_api_Ext_21.eq_1)))) (And.intro (And.intro (And.intro (@mR _ _ ac_slices_Concat_api_Ext_22.eq_1) (@mR _ _ ac_slices_Concat_api_Ext_23.eq_1)) (And.intro (@mU _ _ ac_slices_Concat_api_Ext_24.eq_1) (@mR _ _ ac_slices_Concat_api_Ext_25.eq_1))) (And.intro (And.intro (@mR _ _ ac_slices_Concat_api_Ext_26.eq_1) (@mU _ _ ac_slices_Concat_api_Ext_27.eq_1)) (@mU _ _ ac_slices_Concat_api_Ext_28.eq_1))))) (And.intro (And.intro (And.intro (And.intro (And.intro (@mR _ _ ac_slices_Concat_api_Ext_29.eq_1) (@mU _ _ ac_slices_Concat_api_Ext_30.eq_1)) (And.intro (@mU _ _ ac_slices_Concat_api_Ext_31.eq_1) (@mU _ _ ac_slices_Concat_api_Ext_32.eq_1))) (And.intro (And.intro (@mU _ _ ac_slices_Concat_api_Ext_33.eq_1) (@mU _ _ ac_slices_Concat_api_Ext_34.eq_1)) (And.intro (@mU _ _ ac_slices_Concat_api_Ext_35.eq_1) (@mR _ _ ac_slices_Concat_api_Ext_36.eq_1)))) (And.intro (And.intro (And.intro (@mU _ _ ac_slices_Concat_api_Ext_37.eq_1) (@mU _ _ ac_slices_Concat_api_Ext_38.eq_1)) (And.intro (@mU _ _ ac_slices_Concat_api_Ext_39.eq_1) (@mU _ _ ac_slices_Concat_api_Ext_40.eq_1))) (And.intro (And.intro (@mU _ _ ac_slices_Concat_api_Ext_41.eq_1) (@mU _ _ ac_slices_Concat_api_Ext_42.eq_1)) @l_slices_Concat_api_Ext_0.eq_1))) (And.intro (And.intro (And.intro (And.intro @l_slices_Concat_api_Ext_1.eq_1 @l_slices_Concat_api_Ext_2.eq_1) (And.intro @l_slices_Concat_api_Ext_3.eq_1 @l_slices_Concat_api_Ext_5.eq_1)) (And.intro (And.intro @l_slices_Concat_api_Ext_6.eq_1 @l_slices_Concat_api_Ext_7.eq_1) (And.intro @l_slices_Concat_api_Ext_8.eq_1 @l_slices_Concat_api_Ext_14.eq_1))) (And.intro (And.intro (And.intro @l_slices_Concat_api_Ext_21.eq_1 @l_slices_Concat_api_Ext_22.eq_1) (And.intro @l_slices_Concat_api_Ext_23.eq_1 @l_slices_Concat_api_Ext_25.eq_1)) (And.intro (And.intro @l_slices_Concat_api_Ext_26.eq_1 @l_slices_Concat_api_Ext_29.eq_1) @l_slices_Concat_api_Ext_36.eq_1)))))

/- scoria/ext.parts -/
def l_ext_parts_0 : List AOp := [⟨(some 6), .mv (.k (.slc [])), none, none, [], none⟩]
def ac_ext_parts_0 : AC := .reg l_ext_parts_0
def l_ext_parts_1 : List AOp := [⟨(some 7), .nilown 4, none, none, [], none⟩]
def ac_ext_parts_1 : AC := .reg l_ext_parts_1
def l_ext_parts_2 : List AOp := [⟨(some 12), .mv (.t 0), none, none, [], none⟩,
  ⟨(some 13), .len (.t 12), none, none, [], none⟩,
  ⟨(some 14), .mv (.k (.int .i64 0)), none, none, [], none⟩]
def ac_ext_parts_2 : AC := .reg l_ext_parts_2
def l_ext_parts_3 : List AOp := [⟨(some 15), .bin .lss (.t 14) (.t 13), none, none, [], none⟩]
def ac_ext_parts_3 : AC := .reg l_ext_parts_3
def ac_ext_parts_4 : AC := .cond (.t 15) .skip (.exit 0)
def l_ext_parts_5 : List AOp := [⟨(some 16), .isl 4 (.t 12) (.t 14), none, none, [], none⟩,
  ⟨(some 17), .load (some 4) (.t 16), none, none, [], none⟩,
  ⟨(some 9), .alloc [(.int .i64 0), (.int .i64 0), (.int .i64 0), (.int .i64 0)], none, none, [], none⟩,
  ⟨none, .store 4 (.t 9) (.t 17), none, none, [], none⟩]
def ac_ext_parts_5 : AC := .reg l_ext_parts_5
def l_ext_parts_6 : List AOp := [⟨(some 19), .load (some 4) (.t 9), none, none, [], none⟩,
  ⟨(some 20), .mv (.t 1), none, none, [], none⟩,
  ⟨(some 21), .mv (.t 2), none, none, [], none⟩,
  ⟨(some 22), .call false 44 [(.t 19), (.t 20), (.t 21)], none, none, [], none⟩,
  ⟨(some 18), .mv (.t 22), none, none, [], none⟩,
  ⟨(some 23), .ext 0 (.t 18), none, none, [], none⟩,
  ⟨(some 24), .ext 1 (.t 18), none, none, [], none⟩,
  ⟨(some 10), .alloc [(.int .i64 0), (.int .i64 0), (.int .i64 0), (.int .i64 0)], none, none, [], none⟩,
  ⟨none, .store 4 (.t 10) (.t 23), none, none, [], none⟩,
  ⟨(some 11), .mv (.t 24), none, none, [], none⟩]
def ac_ext_parts_6 : AC := .reg l_ext_parts_6
def l_ext_parts_7 : List AOp := [⟨(some 25), .mv (.t 11), none, none, [], none⟩]
def ac_ext_parts_7 : AC := .reg l_ext_parts_7
def l_ext_parts_8 : List AOp := [⟨(some 26), .mv (.t 7), none, none, [], none⟩,
  ⟨(some 27), .load (some 4) (.t 10), none, none, [], none⟩,
  ⟨(some 28), .blds false [(.int .i64 0), (.int .i64 0), (.int .i64 0), (.int .i64 0)] 1 [(0, (.t 27))], none, none, [], none⟩,
  ⟨(some 29), .app 4 32 [(.int .i64 0), (.int .i64 0), (.int .i64 0), (.int .i64 0)] (.t 26) (.t 28), none, none, [], none⟩,
  ⟨(some 7), .mv (.t 29), none, none, [], none⟩]
def ac_ext_parts_8 : AC := .reg l_ext_parts_8
def ac_ext_parts_9 : AC := .cond (.t 25) ac_ext_parts_8 .skip
def ac_ext_parts_10 : AC := .seq ac_ext_parts_7 ac_ext_parts_9
def ac_ext_parts_11 : AC := .seq ac_ext_parts_6 ac_ext_parts_10
def ac_ext_parts_12 : AC := .seq ac_ext_parts_5 ac_ext_parts_11
def ac_ext_parts_13 : AC := .block 1 ac_ext_parts_12
def l_ext_parts_14 : List AOp := [⟨(some 30), .bin .add (.t 14) (.k (.int .i64 1)), none, none, [], none⟩,
  ⟨(some 14), .mv (.t 30), none, none, [], none⟩]
def ac_ext_parts_14 : AC := .reg l_ext_parts_14
def ac_ext_parts_15 : AC := .seq ac_ext_parts_13 ac_ext_parts_14
def ac_ext_parts_16 : AC := .seq ac_ext_parts_4 ac_ext_parts_15
def ac_ext_parts_17 : AC := .seq ac_ext_parts_3 ac_ext_parts_16
def ac_ext_parts_18 : AC := .loop [1, 2, 7, 12, 13, 14] 1 ac_ext_parts_17
def ac_ext_parts_19 : AC := .block 0 ac_ext_parts_18
def ac_ext_parts_20 : AC := .seq ac_ext_parts_2 ac_ext_parts_19
def l_ext_parts_21 : List AOp := [⟨(some 31), .mv (.t 7), none, none, [], none⟩,
  ⟨(some 6), .mv (.t 31), none, none, [], none⟩]
def ac_ext_parts_21 : AC := .reg l_ext_parts_21
def ac_ext_parts_22 : AC := .seq ac_ext_parts_21 .ret
def ac_ext_parts_23 : AC := .seq ac_ext_parts_20 ac_ext_parts_22
def ac_ext_parts_24 : AC := .seq ac_ext_parts_1 ac_ext_parts_23
def ac_ext_parts_25 : AC := .seq ac_ext_parts_0 ac_ext_parts_24
def ac_ext_parts : AC := ac_ext_parts_25
theorem comp_ext_parts : compF Try.prog [7] (drawR Try.prog [7] Try.f36.ntmps) [([1, 2, 7, 12, 13, 14], 1)] 3 Try.f36 = some (ac_ext_parts, [.t 6]) := by kernel_rfl
def U_ext_parts := (And.intro (And.intro (And.intro (And.intro (And.intro (And.intro @ac_ext_parts.eq_1 (@mR _ _ ac_ext_parts_0.eq_1)) (@mR _ _ ac_ext_parts_1.eq_1)) (And.intro (@mR _ _ ac_ext_parts_2.eq_1) (@mR _ _ ac_ext_parts_3.eq_1))) (And.intro (And.intro (And.intro (@mU _ _ ac_ext_parts_4.eq_1) (@mR _ _ ac_ext_parts_5.eq_1)) (@mR _ _ ac_ext_parts_6.eq_1)) (And.intro (@mR _ _ ac_ext_parts_7.eq_1) (@mR _ _ ac_ext_parts_8.eq_1)))) (And.intro (And.intro (And.intro (And.intro (@mU _ _ ac_ext_parts_9.eq_1) (@mU _ _ ac_ext_parts_10.eq_1)) (@mU _ _ ac_ext_parts_11.eq_1)) (And.intro (@mU _ _ ac_ext_parts_12.eq_1) (@mU _ _ ac_ext_parts_13.eq_1))) (And.intro (And.intro (@mR _ _ ac_ext_parts_14.eq_1) (@mU _ _ ac_ext_parts_15.eq_1)) (And.intro (@mU _ _ ac_ext_parts_16.eq_1) (@mU _ _ ac_ext_parts_17.eq_1))))) (And.intro (And.intro (And.intro (And.intro (And.intro (@mU _ _ ac_ext_parts_18.eq_1) (@mU _ _ ac_ext_parts_19.eq_1)) (@mU _ _ ac_ext_parts_20.eq_1)) (And.intro (@mR _ _ ac_ext_parts_21.eq_1) (@mU _ _ ac_ext_parts_22.eq_1))) (And.intro (And.intro (@mU _ _ ac_ext_parts_23.eq_1) (@mU _ _ ac_ext_parts_24.eq_1)) (And.intro (@mU _ _ ac_ext_parts_25.eq_1) @l_ext_parts_0.eq_1))) (And.intro (And.intro (And.intro (And.intro @l_ext_parts_1.eq_1 @l_ext_parts_2.eq_1) @l_ext_parts_3.eq_1) (And.intro @l_ext_parts_5.eq_1 @l_ext_parts_6.eq_1)) (And.intro (And.intro @l_ext_parts_7.eq_1 @l_ext_parts_8.eq_1) (And.intro @l_ext_parts_14.eq_1 @l_ext_parts_21.eq_1)))))

/- scoria/scoriaref07.together -/
def l_ref07_together_0 : List AOp := [⟨(some 2), .box (.t 0), none, none, [], none⟩,
  ⟨(some 3), .box (.t 1), none, none, [], none⟩,
  ⟨(some 4), .mv (.k (.bool false)), none, none, [], none⟩]
def ac_ref07_together_0 : AC := .reg l_ref07_together_0
def l_ref07_together_1 : List AOp := [⟨(some 5), .faddr 0 (.t 3), none, none, [], none⟩,
  ⟨(some 6), .load none (.t 5), none, none, [], none⟩,
  ⟨(some 7), .faddr 0 (.t 2), none, none, [], none⟩,
  ⟨(some 8), .load none (.t 7), none, none, [], none⟩,
  ⟨(some 9), .faddr 1 (.t 2), none, none, [], none⟩,
  ⟨(some 10), .load none (.t 9), none, none, [], none⟩,
  ⟨(some 11), .bin .add (.t 8) (.t 10), none, none, [], none⟩,
  ⟨(some 12), .bin .neq (.t 6) (.t 11), none, none, [], none⟩,
  ⟨(some 13), .mv (.t 12), none, none, [], none⟩,
  ⟨(some 14), .faddr 2 (.t 2), (some (13, false)), none, [], none⟩,
  ⟨(some 15), .load none (.t 14), (some (13, false)), none, [], none⟩,
  ⟨(some 16), .faddr 2 (.t 3), (some (13, false)), none, [], none⟩,
  ⟨(some 17), .load none (.t 16), (some (13, false)), none, [], none⟩,
  ⟨(some 18), .bin .neq (.t 15) (.t 17), (some (13, false)), none, [], none⟩,
  ⟨(some 19), .pick (.t 13) (.k (.bool true)) (.t 18), none, none, [], none⟩]
def ac_ref07_together_1 : AC := .reg l_ref07_together_1
def l_ref07_together_2 : List AOp := [⟨(some 4), .mv (.k (.bool false)), none, none, [], none⟩]
def ac_ref07_together_2 : AC := .reg l_ref07_together_2
def ac_ref07_together_3 : AC := .seq ac_ref07_together_2 .ret
def ac_ref07_together_4 : AC := .cond (.t 19) ac_ref07_together_3 .skip
def ac_ref07_together_5 : AC := .seq ac_ref07_together_1 ac_ref07_together_4
def l_ref07_together_6 : List AOp := [⟨(some 20), .faddr 2 (.t 2), none, none, [], none⟩,
  ⟨(some 21), .load none (.t 20), none, none, [], none⟩,
  ⟨(some 22), .bin .eql (.t 21) (.k (.int .i64 1)), none, none, [], none⟩,
  ⟨(some 23), .mv (.t 22), none, none, [], none⟩,
  ⟨(some 24), .faddr 3 (.t 3), (some (23, false)), none, [], none⟩,
  ⟨(some 25), .load none (.t 24), (some (23, false)), none, [], none⟩,
  ⟨(some 26), .faddr 3 (.t 2), (some (23, false)), none, [], none⟩,
  ⟨(some 27), .load none (.t 26), (some (23, false)), none, [], none⟩,
  ⟨(some 28), .faddr 1 (.t 2), (some (23, false)), none, [], none⟩,
  ⟨(some 29), .load none (.t 28), (some (23, false)), none, [], none⟩,
  ⟨(some 30), .bin .add (.t 27) (.t 29), (some (23, false)), none, [], none⟩,
  ⟨(some 31), .bin .eql (.t 25) (.t 30), (some (23, false)), none, [], none⟩,
  ⟨(some 32), .pick (.t 23) (.k (.bool true)) (.t 31), none, none, [], none⟩,
  ⟨(some 4), .mv (.t 32), none, none, [], none⟩]
def ac_ref07_together_6 : AC := .reg l_ref07_together_6
def ac_ref07_together_7 : AC := .seq ac_ref07_together_6 .ret
def ac_ref07_together_8 : AC := .seq ac_ref07_together_5 ac_ref07_together_7
def ac_ref07_together_9 : AC := .seq ac_ref07_together_0 ac_ref07_together_8
def ac_ref07_together : AC := ac_ref07_together_9
theorem comp_ref07_together : compF Try.prog [] (drawR Try.prog [] Try.f37.ntmps) [] 2 Try.f37 = some (ac_ref07_together, [.t 4]) := by kernel_rfl
def U_ref07_together := (And.intro (And.intro (And.intro (And.intro @ac_ref07_together.eq_1 (@mR _ _ ac_ref07_together_0.eq_1)) (And.intro (@mR _ _ ac_ref07_together_1.eq_1) (@mR _ _ ac_ref07_together_2.eq_1))) (And.intro (And.intro (@mU _ _ ac_ref07_together_3.eq_1) (@mU _ _ ac_ref07_together_4.eq_1)) (And.intro (@mU _ _ ac_ref07_together_5.eq_1) (@mR _ _ ac_ref07_together_6.eq_1)))) (And.intro (And.intro (And.intro (@mU _ _ ac_ref07_together_7.eq_1) (@mU _ _ ac_ref07_together_8.eq_1)) (And.intro (@mU _ _ ac_ref07_together_9.eq_1) @l_ref07_together_0.eq_1)) (And.intro (And.intro @l_ref07_together_1.eq_1 @l_ref07_together_2.eq_1) @l_ref07_together_6.eq_1)))

/- scoria/scoriaref07.Edges -/
def l_ref07_Edges_0 : List AOp := [⟨(some 2), .mv (.k (.slc [])), none, none, [], none⟩]
def ac_ref07_Edges_0 : AC := .reg l_ref07_Edges_0
def l_ref07_Edges_1 : List AOp := [⟨(some 3), .nilown 1, none, none, [], none⟩]
def ac_ref07_Edges_1 : AC := .reg l_ref07_Edges_1
def l_ref07_Edges_2 : List AOp := [⟨(some 4), .mv (.k (.int .i64 0)), none, none, [], none⟩]
def ac_ref07_Edges_2 : AC := .reg l_ref07_Edges_2
def l_ref07_Edges_3 : List AOp := [⟨(some 5), .mv (.t 4), none, none, [], none⟩,
  ⟨(some 6), .mv (.t 0), none, none, [], none⟩,
  ⟨(some 7), .len (.t 6), none, none, [], none⟩,
  ⟨(some 8), .bin .lss (.t 5) (.t 7), none, none, [], none⟩]
def ac_ref07_Edges_3 : AC := .reg l_ref07_Edges_3
def ac_ref07_Edges_4 : AC := .cond (.t 8) .skip (.exit 0)
def ac_ref07_Edges_5 : AC := .seq ac_ref07_Edges_3 ac_ref07_Edges_4
def l_ref07_Edges_6 : List AOp := [⟨(some 11), .mv (.t 3), none, none, [], none⟩,
  ⟨(some 12), .mv (.t 0), none, none, [], none⟩,
  ⟨(some 13), .mv (.t 4), none, none, [], none⟩,
  ⟨(some 14), .isl 4 (.t 12) (.t 13), none, none, [], none⟩,
  ⟨(some 15), .faddr 0 (.t 14), none, none, [], none⟩,
  ⟨(some 16), .load none (.t 15), none, none, [], none⟩,
  ⟨(some 17), .bin .sub (.t 16) (.k (.int .i64 1)), none, none, [], none⟩,
  ⟨(some 18), .blds false [(.int .i64 0)] 1 [(0, (.t 17))], none, none, [], none⟩,
  ⟨(some 19), .app 1 8 [(.int .i64 0)] (.t 11) (.t 18), none, none, [], none⟩,
  ⟨(some 3), .mv (.t 19), none, none, [], none⟩]
def ac_ref07_Edges_6 : AC := .reg l_ref07_Edges_6
def l_ref07_Edges_7 : List AOp := [⟨(some 20), .mv (.t 3), none, none, [], none⟩,
  ⟨(some 21), .mv (.t 0), none, none, [], none⟩,
  ⟨(some 22), .mv (.t 4), none, none, [], none⟩,
  ⟨(some 23), .isl 4 (.t 21) (.t 22), none, none, [], none⟩,
  ⟨(some 24), .faddr 0 (.t 23), none, none, [], none⟩,
  ⟨(some 25), .load none (.t 24), none, none, [], none⟩,
  ⟨(some 26), .blds false [(.int .i64 0)] 1 [(0, (.t 25))], none, none, [], none⟩,
  ⟨(some 27), .app 1 8 [(.int .i64 0)] (.t 20) (.t 26), none, none, [], none⟩,
  ⟨(some 3), .mv (.t 27), none, none, [], none⟩]
def ac_ref07_Edges_7 : AC := .reg l_ref07_Edges_7
def l_ref07_Edges_8 : List AOp := [⟨(some 28), .mv (.t 3), none, none, [], none⟩,
  ⟨(some 29), .mv (.t 0), none, none, [], none⟩,
  ⟨(some 30), .mv (.t 4), none, none, [], none⟩,
  ⟨(some 31), .isl 4 (.t 29) (.t 30), none, none, [0], none⟩,
  ⟨(some 32), .faddr 0 (.t 31), none, none, [], none⟩,
  ⟨(some 33), .load none (.t 32), none, none, [0], none⟩,
  ⟨(some 34), .mv (.t 0), none, none, [], none⟩,
  ⟨(some 35), .mv (.t 4), none, none, [], none⟩,
  ⟨(some 36), .isl 4 (.t 34) (.t 35), none, none, [0], none⟩,
  ⟨(some 37), .faddr 1 (.t 36), none, none, [], none⟩,
  ⟨(some 38), .load none (.t 37), none, none, [0], none⟩,
  ⟨(some 39), .bin .add (.t 33) (.t 38), none, none, [], none⟩,
  ⟨(some 40), .bin .sub (.t 39) (.k (.int .i64 1)), none, none, [], none⟩,
  ⟨(some 41), .blds false [(.int .i64 0)] 1 [(0, (.t 40))], none, none, [0], none⟩,
  ⟨(some 42), .app 1 8 [(.int .i64 0)] (.t 28) (.t 41), none, (some 0), [], none⟩,
  ⟨(some 3), .mv (.t 42), none, none, [], none⟩]
def ac_ref07_Edges_8 : AC := .dreg 1 l_ref07_Edges_8
def l_ref07_Edges_9 : List AOp := [⟨(some 43), .mv (.t 3), none, none, [], none⟩,
  ⟨(some 44), .mv (.t 0), none, none, [], none⟩,
  ⟨(some 45), .mv (.t 4), none, none, [], none⟩,
  ⟨(some 46), .isl 4 (.t 44) (.t 45), none, none, [0], none⟩,
  ⟨(some 47), .faddr 0 (.t 46), none, none, [], none⟩,
  ⟨(some 48), .load none (.t 47), none, none, [0], none⟩,
  ⟨(some 49), .mv (.t 0), none, none, [], none⟩,
  ⟨(some 50), .mv (.t 4), none, none, [], none⟩,
  ⟨(some 51), .isl 4 (.t 49) (.t 50), none, none, [0], none⟩,
  ⟨(some 52), .faddr 1 (.t 51), none, none, [], none⟩,
  ⟨(some 53), .load none (.t 52), none, none, [0], none⟩,
  ⟨(some 54), .bin .add (.t 48) (.t 53), none, none, [], none⟩,
  ⟨(some 55), .blds false [(.int .i64 0)] 1 [(0, (.t 54))], none, none, [0], none⟩,
  ⟨(some 56), .app 1 8 [(.int .i64 0)] (.t 43) (.t 55), none, (some 0), [], none⟩,
  ⟨(some 3), .mv (.t 56), none, none, [], none⟩]
def ac_ref07_Edges_9 : AC := .dreg 1 l_ref07_Edges_9
def ac_ref07_Edges_10 : AC := .seq ac_ref07_Edges_8 ac_ref07_Edges_9
def ac_ref07_Edges_11 : AC := .seq ac_ref07_Edges_7 ac_ref07_Edges_10
def ac_ref07_Edges_12 : AC := .seq ac_ref07_Edges_6 ac_ref07_Edges_11
def ac_ref07_Edges_13 : AC := .block 1 ac_ref07_Edges_12
def l_ref07_Edges_14 : List AOp := [⟨(some 9), .mv (.t 4), none, none, [], none⟩,
  ⟨(some 10), .bin .add (.t 9) (.k (.int .i64 1)), none, none, [], none⟩,
  ⟨(some 4), .mv (.t 10), none, none, [], none⟩]
def ac_ref07_Edges_14 : AC := .reg l_ref07_Edges_14
def ac_ref07_Edges_15 : AC := .seq ac_ref07_Edges_13 ac_ref07_Edges_14
def ac_ref07_Edges_16 : AC := .seq ac_ref07_Edges_5 ac_ref07_Edges_15
def ac_ref07_Edges_17 : AC := .loop [0, 3, 4] 1 ac_ref07_Edges_16
def ac_ref07_Edges_18 : AC := .block 0 ac_ref07_Edges_17
def ac_ref07_Edges_19 : AC := .seq ac_ref07_Edges_2 ac_ref07_Edges_18
def l_ref07_Edges_20 : List AOp := [⟨(some 57), .mv (.t 3), none, none, [], none⟩,
  ⟨(some 2), .mv (.t 57), none, none, [], none⟩]
def ac_ref07_Edges_20 : AC := .reg l_ref07_Edges_20
def ac_ref07_Edges_21 : AC := .seq ac_ref07_Edges_20 .ret
def ac_ref07_Edges_22 : AC := .seq ac_ref07_Edges_19 ac_ref07_Edges_21
def ac_ref07_Edges_23 : AC := .seq ac_ref07_Edges_1 ac_ref07_Edges_22
def ac_ref07_Edges_24 : AC := .seq ac_ref07_Edges_0 ac_ref07_Edges_23
def ac_ref07_Edges : AC := ac_ref07_Edges_24
theorem comp_ref07_Edges : compF Try.prog [3] (drawR Try.prog [3] Try.f38.ntmps) [([0, 3, 4], 1)] 1 Try.f38 = some (ac_ref07_Edges, [.t 2]) := by kernel_rfl
def U_ref07_Edges := (And.intro (And.intro (And.intro (And.intro (And.intro (And.intro @ac_ref07_Edges.eq_1 (@mR _ _ ac_ref07_Edges_0.eq_1)) (@mR _ _ ac_ref07_Edges_1.eq_1)) (And.intro (@mR _ _ ac_ref07_Edges_2.eq_1) (@mR _ _ ac_ref07_Edges_3.eq_1))) (And.intro (And.intro (@mU _ _ ac_ref07_Edges_4.eq_1) (@mU _ _ ac_ref07_Edges_5.eq_1)) (And.intro (@mR _ _ ac_ref07_Edges_6.eq_1) (@mR _ _ ac_ref07_Edges_7.eq_1)))) (And.intro (And.intro (And.intro (And.intro (@mD _ _ _ ac_ref07_Edges_8.eq_1) (@mD _ _ _ ac_ref07_Edges_9.eq_1)) (@mU _ _ ac_ref07_Edges_10.eq_1)) (And.intro (@mU _ _ ac_ref07_Edges_11.eq_1) (@mU _ _ ac_ref07_Edges_12.eq_1))) (And.intro (And.intro (@mU _ _ ac_ref07_Edges_13.eq_1) (@mR _ _ ac_ref07_Edges_14.eq_1)) (And.intro (@mU _ _ ac_ref07_Edges_15.eq_1) (@mU _ _ ac_ref07_Edges_16.eq_1))))) (And.intro (And.intro (And.intro (And.intro (And.intro (@mU _ _ ac_ref07_Edges_17.eq_1) (@mU _ _ ac_ref07_Edges_18.eq_1)) (@mU _ _ ac_ref07_Edges_19.eq_1)) (And.intro (@mR _ _ ac_ref07_Edges_20.eq_1) (@mU _ _ ac_ref07_Edges_21.eq_1))) (And.intro (And.intro (@mU _ _ ac_ref07_Edges_22.eq_1) (@mU _ _ ac_ref07_Edges_23.eq_1)) (And.intro (@mU _ _ ac_ref07_Edges_24.eq_1) @l_ref07_Edges_0.eq_1))) (And.intro (And.intro (And.intro (And.intro @l_ref07_Edges_1.eq_1 @l_ref07_Edges_2.eq_1) @l_ref07_Edges_3.eq_1) (And.intro @l_ref07_Edges_6.eq_1 @l_ref07_Edges_7.eq_1)) (And.intro (And.intro @l_ref07_Edges_8.eq_1 @l_ref07_Edges_9.eq_1) (And.intro @l_ref07_Edges_14.eq_1 @l_ref07_Edges_20.eq_1)))))

/- scoria/ext.end -/
def l_ext_end_0 : List AOp := [⟨(some 1), .box (.t 0), none, none, [], none⟩,
  ⟨(some 2), .mv (.k (.int .i64 0)), none, none, [], none⟩]
def ac_ext_end_0 : AC := .reg l_ext_end_0
def l_ext_end_1 : List AOp := [⟨(some 3), .faddr 0 (.t 1), none, none, [], none⟩,
  ⟨(some 4), .load none (.t 3), none, none, [], none⟩,
  ⟨(some 5), .faddr 1 (.t 1), none, none, [], none⟩,
  ⟨(some 6), .load none (.t 5), none, none, [], none⟩,
  ⟨(some 7), .bin .add (.t 4) (.t 6), none, none, [], none⟩,
  ⟨(some 2), .mv (.t 7), none, none, [], none⟩]
def ac_ext_end_1 : AC := .reg l_ext_end_1
def ac_ext_end_2 : AC := .seq ac_ext_end_1 .ret
def ac_ext_end_3 : AC := .seq ac_ext_end_0 ac_ext_end_2
def ac_ext_end : AC := ac_ext_end_3
theorem comp_ext_end : compF Try.prog [] (drawR Try.prog [] Try.f39.ntmps) [] 1 Try.f39 = some (ac_ext_end, [.t 2]) := by kernel_rfl
def U_ext_end := (And.intro (And.intro (And.intro @ac_ext_end.eq_1 (@mR _ _ ac_ext_end_0.eq_1)) (And.intro (@mR _ _ ac_ext_end_1.eq_1) (@mU _ _ ac_ext_end_2.eq_1))) (And.intro (And.intro (@mU _ _ ac_ext_end_3.eq_1) @l_ext_end_0.eq_1) @l_ext_end_1.eq_1))

/- scoria/ext.together -/
def l_ext_together_0 : List AOp := [⟨(some 2), .box (.t 0), none, none, [], none⟩,
  ⟨(some 3), .box (.t 1), none, none, [], none⟩,
  ⟨(some 4), .mv (.k (.bool false)), none, none, [], none⟩]
def ac_ext_together_0 : AC := .reg l_ext_together_0
def l_ext_together_1 : List AOp := [⟨(some 6), .load (some 4) (.t 2), none, none, [0], none⟩,
  ⟨(some 7), .call false 39 [(.t 6)], none, none, [0], none⟩,
  ⟨(some 8), .faddr 1 (.t 3), none, none, [], none⟩,
  ⟨(some 9), .load none (.t 8), none, none, [0], none⟩,
  ⟨(some 10), .faddr 2 (.t 2), none, none, [], none⟩,
  ⟨(some 11), .load none (.t 10), none, none, [0], none⟩,
  ⟨(some 12), .build [(.int .i64 0), (.int .i64 0), (.int .i64 0), (.int .i64 0)] [(0, 1, (.t 7)), (1, 1, (.t 9)), (2, 1, (.t 11))], none, none, [], none⟩,
  ⟨(some 5), .alloc [(.int .i64 0), (.int .i64 0), (.int .i64 0), (.int .i64 0)], none, (some 0), [], none⟩,
  ⟨none, .store 4 (.t 5) (.t 12), none, none, [], none⟩]
def ac_ext_together_1 : AC := .dreg 1 l_ext_together_1
def l_ext_together_2 : List AOp := [⟨(some 13), .faddr 2 (.t 2), none, none, [], none⟩,
  ⟨(some 14), .load none (.t 13), none, none, [], none⟩,
  ⟨(some 15), .bin .eql (.t 14) (.k (.int .i64 2)), none, none, [], none⟩]
def ac_ext_together_2 : AC := .reg l_ext_together_2
def l_ext_together_3 : List AOp := [⟨(some 16), .faddr 3 (.t 2), none, none, [], none⟩,
  ⟨(some 17), .load none (.t 16), none, none, [], none⟩,
  ⟨(some 18), .faddr 1 (.t 2), none, none, [], none⟩,
  ⟨(some 19), .load none (.t 18), none, none, [], none⟩,
  ⟨(some 20), .bin .add (.t 17) (.t 19), none, none, [], none⟩,
  ⟨(some 21), .faddr 3 (.t 5), none, none, [], none⟩,
  ⟨none, .store 1 (.t 21) (.t 20), none, none, [], none⟩]
def ac_ext_together_3 : AC := .reg l_ext_together_3
def ac_ext_together_4 : AC := .cond (.t 15) ac_ext_together_3 .skip
def ac_ext_together_5 : AC := .seq ac_ext_together_2 ac_ext_together_4
def l_ext_together_6 : List AOp := [⟨(some 22), .load (some 4) (.t 5), none, none, [], none⟩,
  ⟨(some 23), .load (some 4) (.t 3), none, none, [], none⟩,
  ⟨(some 24), .eqs false [.i, .i, .i, .i] (.t 22) (.t 23), none, none, [], none⟩,
  ⟨(some 4), .mv (.t 24), none, none, [], none⟩]
def ac_ext_together_6 : AC := .reg l_ext_together_6
def ac_ext_together_7 : AC := .seq ac_ext_together_6 .ret
def ac_ext_together_8 : AC := .seq ac_ext_together_5 ac_ext_together_7
def ac_ext_together_9 : AC := .seq ac_ext_together_1 ac_ext_together_8
def ac_ext_together_10 : AC := .seq ac_ext_together_0 ac_ext_together_9
def ac_ext_together : AC := ac_ext_together_10
theorem comp_ext_together : compF Try.prog [] (drawR Try.prog [] Try.f40.ntmps) [] 2 Try.f40 = some (ac_ext_together, [.t 4]) := by kernel_rfl
def U_ext_together := (And.intro (And.intro (And.intro (And.intro (And.intro @ac_ext_together.eq_1 (@mR _ _ ac_ext_together_0.eq_1)) (@mD _ _ _ ac_ext_together_1.eq_1)) (And.intro (@mR _ _ ac_ext_together_2.eq_1) (@mR _ _ ac_ext_together_3.eq_1))) (And.intro (And.intro (@mU _ _ ac_ext_together_4.eq_1) (@mU _ _ ac_ext_together_5.eq_1)) (And.intro (@mR _ _ ac_ext_together_6.eq_1) (@mU _ _ ac_ext_together_7.eq_1)))) (And.intro (And.intro (And.intro (@mU _ _ ac_ext_together_8.eq_1) (@mU _ _ ac_ext_together_9.eq_1)) (And.intro (@mU _ _ ac_ext_together_10.eq_1) @l_ext_together_0.eq_1)) (And.intro (And.intro @l_ext_together_1.eq_1 @l_ext_together_2.eq_1) (And.intro @l_ext_together_3.eq_1 @l_ext_together_6.eq_1))))

/- slices.IndexFunc[[]scoria/api.Ext,scoria/api.Ext] -/
def l_slices_IndexFunc_api_Ext_0 : List AOp := [⟨(some 4), .mv (.k (.int .i64 0)), none, none, [], none⟩]
def ac_slices_IndexFunc_api_Ext_0 : AC := .reg l_slices_IndexFunc_api_Ext_0
def l_slices_IndexFunc_api_Ext_1 : List AOp := [⟨(some 6), .mv (.t 0), none, none, [], none⟩,
  ⟨(some 7), .len (.t 6), none, none, [], none⟩,
  ⟨(some 8), .mv (.k (.int .i64 0)), none, none, [], none⟩]
def ac_slices_IndexFunc_api_Ext_1 : AC := .reg l_slices_IndexFunc_api_Ext_1
def l_slices_IndexFunc_api_Ext_2 : List AOp := [⟨(some 9), .bin .lss (.t 8) (.t 7), none, none, [], none⟩]
def ac_slices_IndexFunc_api_Ext_2 : AC := .reg l_slices_IndexFunc_api_Ext_2
def ac_slices_IndexFunc_api_Ext_3 : AC := .cond (.t 9) .skip (.exit 0)
def l_slices_IndexFunc_api_Ext_4 : List AOp := [⟨(some 10), .mv (.t 8), none, none, [], none⟩,
  ⟨(some 5), .mv (.t 10), none, none, [], none⟩]
def ac_slices_IndexFunc_api_Ext_4 : AC := .reg l_slices_IndexFunc_api_Ext_4
def l_slices_IndexFunc_api_Ext_5 : List AOp := [⟨(some 11), .mv (.t 1), none, none, [], none⟩,
  ⟨(some 12), .mv (.t 0), none, none, [], none⟩,
  ⟨(some 13), .mv (.t 5), none, none, [], none⟩,
  ⟨(some 14), .isl 4 (.t 12) (.t 13), none, none, [], none⟩,
  ⟨(some 15), .load (some 4) (.t 14), none, none, [], none⟩,
  ⟨(some 16), .callv (.t 11) [(.t 15)], none, none, [], none⟩]
def ac_slices_IndexFunc_api_Ext_5 : AC := .reg l_slices_IndexFunc_api_Ext_5
def l_slices_IndexFunc_api_Ext_6 : List AOp := [⟨(some 17), .mv (.t 5), none, none, [], none⟩,
  ⟨(some 4), .mv (.t 17), none, none, [], none⟩]
def ac_slices_IndexFunc_api_Ext_6 : AC := .reg l_slices_IndexFunc_api_Ext_6
def ac_slices_IndexFunc_api_Ext_7 : AC := .seq ac_slices_IndexFunc_api_Ext_6 .ret
def ac_slices_IndexFunc_api_Ext_8 : AC := .cond (.t 16) ac_slices_IndexFunc_api_Ext_7 .skip
def ac_slices_IndexFunc_api_Ext_9 : AC := .seq ac_slices_IndexFunc_api_Ext_5 ac_slices_IndexFunc_api_Ext_8
def ac_slices_IndexFunc_api_Ext_10 : AC := .seq ac_slices_IndexFunc_api_Ext_4 ac_slices_IndexFunc_api_Ext_9
def ac_slices_IndexFunc_api_Ext_11 : AC := .block 1 ac_slices_IndexFunc_api_Ext_10
def l_slices_IndexFunc_api_Ext_12 : List AOp := [⟨(some 18), .bin .add (.t 8) (.k (.int .i64 1)), none, none, [], none⟩,
  ⟨(some 8), .mv (.t 18), none, none, [], none⟩]
def ac_slices_IndexFunc_api_Ext_12 : AC := .reg l_slices_IndexFunc_api_Ext_12
def ac_slices_IndexFunc_api_Ext_13 : AC := .seq ac_slices_IndexFunc_api_Ext_11 ac_slices_IndexFunc_api_Ext_12
def ac_slices_IndexFunc_api_Ext_14 : AC := .seq ac_slices_IndexFunc_api_Ext_3 ac_slices_IndexFunc_api_Ext_13
def ac_slices_IndexFunc_api_Ext_15 : AC := .seq ac_slices_IndexFunc_api_Ext_2 ac_slices_IndexFunc_api_Ext_14
def ac_slices_IndexFunc_api_Ext_16 : AC := .loop [0, 1, 7, 8] 0 ac_slices_IndexFunc_api_Ext_15
def ac_slices_IndexFunc_api_Ext_17 : AC := .block 0 ac_slices_IndexFunc_api_Ext_16
def ac_slices_IndexFunc_api_Ext_18 : AC := .seq ac_slices_IndexFunc_api_Ext_1 ac_slices_IndexFunc_api_Ext_17
def l_slices_IndexFunc_api_Ext_19 : List AOp := [⟨(some 4), .mv (.k (.int .i64 (-1))), none, none, [], none⟩]
def ac_slices_IndexFunc_api_Ext_19 : AC := .reg l_slices_IndexFunc_api_Ext_19
def ac_slices_IndexFunc_api_Ext_20 : AC := .seq ac_slices_IndexFunc_api_Ext_19 .ret
def ac_slices_IndexFunc_api_Ext_21 : AC := .seq ac_slices_IndexFunc_api_Ext_18 ac_slices_IndexFunc_api_Ext_20
def ac_slices_IndexFunc_api_Ext_22 : AC := .seq ac_slices_IndexFunc_api_Ext_0 ac_slices_IndexFunc_api_Ext_21
def ac_slices_IndexFunc_api_Ext : AC := ac_slices_IndexFunc_api_Ext_22
theorem comp_slices_IndexFunc_api_Ext : compF Try.prog [] (drawR Try.prog [] Try.f41.ntmps) [([0, 1, 7, 8], 0)] 2 Try.f41 = some (ac_slices_IndexFunc_api_Ext, [.t 4]) := by kernel_rfl
def U_slices_IndexFunc_api_Ext := (And.intro (And.intro (And.intro (And.intro (And.intro @ac_slices_IndexFunc_api_Ext.eq_1 (@mR _ _ ac_slices_IndexFunc_api_Ext_0.eq_1)) (And.intro (@mR _ _ ac_slices_IndexFunc_api_Ext_1.eq_1) (@mR _ _ ac_slices_IndexFunc_api_Ext_2.eq_1))) (And.intro (And.intro (@mU _ _ ac_slices_IndexFunc_api_Ext_3.eq_1) (@mR _ _ ac_slices_IndexFunc_api_Ext_4.eq_1)) (And.intro (@mR _ _ ac_slices_IndexFunc_api_Ext_5.eq_1) (@mR _ _ ac_slices_IndexFunc_api_Ext_6.eq_1)))) (And.intro (And.intro (And.intro (@mU _ _ ac_slices_IndexFunc_api_Ext_7.eq_1) (@mU _ _ ac_slices_IndexFunc_api_Ext_8.eq_1)) (And.intro (@mU _ _ ac_slices_IndexFunc_api_Ext_9.eq_1) (@mU _ _ ac_slices_IndexFunc_api_Ext_10.eq_1))) (And.intro (And.intro (@mU _ _ ac_slices_IndexFunc_api_Ext_11.eq_1) (@mR _ _ ac_slices_IndexFunc_api_Ext_12.eq_1)) (And.intro (@mU _ _ ac_slices_IndexFunc_api_Ext_13.eq_1) (@mU _ _ ac_slices_IndexFunc_api_Ext_14.eq_1))))) (And.intro (And.intro (And.intro (And.intro (@mU _ _ ac_slices_IndexFunc_api_Ext_15.eq_1) (@mU _ _ ac_slices_IndexFunc_api_Ext_16.eq_1)) (And.intro (@mU _ _ ac_slices_IndexFunc_api_Ext_17.eq_1) (@mU _ _ ac_slices_IndexFunc_api_Ext_18.eq_1))) (And.intro (And.intro (@mR _ _ ac_slices_IndexFunc_api_Ext_19.eq_1) (@mU _ _ ac_slices_IndexFunc_api_Ext_20.eq_1)) (And.intro (@mU _ _ ac_slices_IndexFunc_api_Ext_21.eq_1) (@mU _ _ ac_slices_IndexFunc_api_Ext_22.eq_1)))) (And.intro (And.intro (And.intro @l_slices_IndexFunc_api_Ext_0.eq_1 @l_slices_IndexFunc_api_Ext_1.eq_1) (And.intro @l_slices_IndexFunc_api_Ext_2.eq_1 @l_slices_IndexFunc_api_Ext_4.eq_1)) (And.intro (And.intro @l_slices_IndexFunc_api_Ext_5.eq_1 @l_slices_IndexFunc_api_Ext_6.eq_1) (And.intro @l_slices_IndexFunc_api_Ext_12.eq_1 @l_slices_IndexFunc_api_Ext_19.eq_1)))))

/- scoria/ext.Find$1 -/
def l_ext_Find_c1_0 : List AOp := [⟨(some 2), .box (.t 0), none, none, [], none⟩,
  ⟨(some 3), .mv (.k (.bool false)), none, none, [], none⟩]
def ac_ext_Find_c1_0 : AC := .reg l_ext_Find_c1_0
def l_ext_Find_c1_1 : List AOp := [⟨(some 4), .load none (.t 1), none, none, [], none⟩,
  ⟨(some 5), .faddr 0 (.t 2), none, none, [], none⟩,
  ⟨(some 6), .load none (.t 5), none, none, [], none⟩,
  ⟨(some 7), .bin .geq (.t 4) (.t 6), none, none, [], none⟩,
  ⟨(some 8), .mv (.t 7), none, none, [], none⟩,
  ⟨(some 9), .load none (.t 1), (some (8, true)), none, [], none⟩,
  ⟨(some 10), .faddr 0 (.t 2), (some (8, true)), none, [], none⟩,
  ⟨(some 11), .load none (.t 10), (some (8, true)), none, [], none⟩,
  ⟨(some 12), .bin .sub (.t 9) (.t 11), (some (8, true)), none, [], none⟩,
  ⟨(some 13), .faddr 1 (.t 2), (some (8, true)), none, [], none⟩,
  ⟨(some 14), .load none (.t 13), (some (8, true)), none, [], none⟩,
  ⟨(some 15), .bin .lss (.t 12) (.t 14), (some (8, true)), none, [], none⟩,
  ⟨(some 16), .pick (.t 8) (.t 15) (.k (.bool false)), none, none, [], none⟩,
  ⟨(some 3), .mv (.t 16), none, none, [], none⟩]
def ac_ext_Find_c1_1 : AC := .reg l_ext_Find_c1_1
def ac_ext_Find_c1_2 : AC := .seq ac_ext_Find_c1_1 .ret
def ac_ext_Find_c1_3 : AC := .seq ac_ext_Find_c1_0 ac_ext_Find_c1_2
def ac_ext_Find_c1 : AC := ac_ext_Find_c1_3
theorem comp_ext_Find_c1 : compF Try.prog [] (drawR Try.prog [] Try.f42.ntmps) [] 2 Try.f42 = some (ac_ext_Find_c1, [.t 3]) := by kernel_rfl
def U_ext_Find_c1 := (And.intro (And.intro (And.intro @ac_ext_Find_c1.eq_1 (@mR _ _ ac_ext_Find_c1_0.eq_1)) (And.intro (@mR _ _ ac_ext_Find_c1_1.eq_1) (@mU _ _ ac_ext_Find_c1_2.eq_1))) (And.intro (And.intro (@mU _ _ ac_ext_Find_c1_3.eq_1) @l_ext_Find_c1_0.eq_1) @l_ext_Find_c1_1.eq_1))

/- scoria/ext.part -/
def l_ext_part_0 : List AOp := [⟨(some 3), .box (.t 0), none, none, [], none⟩,
  ⟨(some 6), .alloc [(.int .i64 0), (.int .i64 0), (.int .i64 0), (.int .i64 0)], none, none, [], none⟩,
  ⟨(some 7), .mv (.k (.bool false)), none, none, [], none⟩]
def ac_ext_part_0 : AC := .reg l_ext_part_0
def l_ext_part_1 : List AOp := [⟨(some 11), .faddr 0 (.t 3), none, none, [], none⟩,
  ⟨(some 12), .load none (.t 11), none, none, [], none⟩,
  ⟨(some 13), .mv (.t 1), none, none, [], none⟩,
  ⟨(some 14), .mm true [(.t 12), (.t 13)], none, none, [], none⟩,
  ⟨(some 15), .load (some 4) (.t 3), none, none, [], none⟩,
  ⟨(some 16), .call false 39 [(.t 15)], none, none, [], none⟩,
  ⟨(some 17), .mv (.t 2), none, none, [], none⟩,
  ⟨(some 18), .mm false [(.t 16), (.t 17)], none, none, [], none⟩,
  ⟨(some 8), .mv (.t 14), none, none, [], none⟩,
  ⟨(some 9), .mv (.t 18), none, none, [], none⟩]
def ac_ext_part_1 : AC := .dreg 0 l_ext_part_1
def l_ext_part_2 : List AOp := [⟨(some 19), .mv (.t 8), none, none, [], none⟩,
  ⟨(some 20), .mv (.t 9), none, none, [], none⟩,
  ⟨(some 21), .bin .geq (.t 19) (.t 20), none, none, [], none⟩]
def ac_ext_part_2 : AC := .reg l_ext_part_2
def l_ext_part_3 : List AOp := [⟨(some 22), .build [(.int .i64 0), (.int .i64 0), (.int .i64 0), (.int .i64 0)] [], none, none, [], none⟩,
  ⟨none, .store 4 (.t 6) (.t 22), none, none, [], none⟩,
  ⟨(some 7), .mv (.k (.bool false)), none, none, [], none⟩]
def ac_ext_part_3 : AC := .reg l_ext_part_3
def ac_ext_part_4 : AC := .seq ac_ext_part_3 .ret
def ac_ext_part_5 : AC := .cond (.t 21) ac_ext_part_4 .skip
def ac_ext_part_6 : AC := .seq ac_ext_part_2 ac_ext_part_5
def l_ext_part_7 : List AOp := [⟨(some 23), .mv (.t 8), none, none, [], none⟩,
  ⟨(some 24), .mv (.t 9), none, none, [], none⟩,
  ⟨(some 25), .mv (.t 8), none, none, [], none⟩,
  ⟨(some 26), .bin .sub (.t 24) (.t 25), none, none, [], none⟩,
  ⟨(some 27), .faddr 2 (.t 3), none, none, [], none⟩,
  ⟨(some 28), .load none (.t 27), none, none, [], none⟩,
  ⟨(some 29), .build [(.int .i64 0), (.int .i64 0), (.int .i64 0), (.int .i64 0)] [(0, 1, (.t 23)), (1, 1, (.t 26)), (2, 1, (.t 28))], none, none, [], none⟩,
  ⟨(some 10), .alloc [(.int .i64 0), (.int .i64 0), (.int .i64 0), (.int .i64 0)], none, none, [], none⟩,
  ⟨none, .store 4 (.t 10) (.t 29), none, none, [], none⟩]
def ac_ext_part_7 : AC := .reg l_ext_part_7
def l_ext_part_8 : List AOp := [⟨(some 30), .faddr 2 (.t 3), none, none, [], none⟩,
  ⟨(some 31), .load none (.t 30), none, none, [], none⟩,
  ⟨(some 32), .bin .eql (.t 31) (.k (.int .i64 2)), none, none, [], none⟩]
def ac_ext_part_8 : AC := .reg l_ext_part_8
def l_ext_part_9 : List AOp := [⟨(some 33), .faddr 3 (.t 3), none, none, [], none⟩,
  ⟨(some 34), .load none (.t 33), none, none, [], none⟩,
  ⟨(some 35), .mv (.t 8), none, none, [], none⟩,
  ⟨(some 36), .bin .add (.t 34) (.t 35), none, none, [], none⟩,
  ⟨(some 37), .faddr 0 (.t 3), none, none, [], none⟩,
  ⟨(some 38), .load none (.t 37), none, none, [], none⟩,
  ⟨(some 39), .bin .sub (.t 36) (.t 38), none, none, [], none⟩,
  ⟨(some 40), .faddr 3 (.t 10), none, none, [], none⟩,
  ⟨none, .store 1 (.t 40) (.t 39), none, none, [], none⟩]
def ac_ext_part_9 : AC := .reg l_ext_part_9
def ac_ext_part_10 : AC := .cond (.t 32) ac_ext_part_9 .skip
def ac_ext_part_11 : AC := .seq ac_ext_part_8 ac_ext_part_10
def l_ext_part_12 : List AOp := [⟨(some 41), .load (some 4) (.t 10), none, none, [], none⟩,
  ⟨none, .store 4 (.t 6) (.t 41), none, none, [], none⟩,
  ⟨(some 7), .mv (.k (.bool true)), none, none, [], none⟩]
def ac_ext_part_12 : AC := .reg l_ext_part_12
def ac_ext_part_13 : AC := .seq ac_ext_part_12 .ret
def ac_ext_part_14 : AC := .seq ac_ext_part_11 ac_ext_part_13
def ac_ext_part_15 : AC := .seq ac_ext_part_7 ac_ext_part_14
def ac_ext_part_16 : AC := .seq ac_ext_part_6 ac_ext_part_15
def ac_ext_part_17 : AC := .seq ac_ext_part_1 ac_ext_part_16
def ac_ext_part_18 : AC := .seq ac_ext_part_0 ac_ext_part_17
def ac_ext_part : AC := ac_ext_part_18
theorem comp_ext_part : compF Try.prog [] (drawR Try.prog [] Try.f44.ntmps) [] 3 Try.f44 = some (ac_ext_part, [.c 6 (some 4), .t 7]) := by kernel_rfl
def U_ext_part := (And.intro (And.intro (And.intro (And.intro (And.intro @ac_ext_part.eq_1 (@mR _ _ ac_ext_part_0.eq_1)) (And.intro (@mD _ _ _ ac_ext_part_1.eq_1) (@mR _ _ ac_ext_part_2.eq_1))) (And.intro (And.intro (@mR _ _ ac_ext_part_3.eq_1) (@mU _ _ ac_ext_part_4.eq_1)) (@mU _ _ ac_ext_part_5.eq_1))) (And.intro (And.intro (And.intro (@mU _ _ ac_ext_part_6.eq_1) (@mR _ _ ac_ext_part_7.eq_1)) (And.intro (@mR _ _ ac_ext_part_8.eq_1) (@mR _ _ ac_ext_part_9.eq_1))) (And.intro (And.intro (@mU _ _ ac_ext_part_10.eq_1) (@mU _ _ ac_ext_part_11.eq_1)) (@mR _ _ ac_ext_part_12.eq_1)))) (And.intro (And.intro (And.intro (And.intro (@mU _ _ ac_ext_part_13.eq_1) (@mU _ _ ac_ext_part_14.eq_1)) (And.intro (@mU _ _ ac_ext_part_15.eq_1) (@mU _ _ ac_ext_part_16.eq_1))) (And.intro (And.intro (@mU _ _ ac_ext_part_17.eq_1) (@mU _ _ ac_ext_part_18.eq_1)) @l_ext_part_0.eq_1)) (And.intro (And.intro (And.intro @l_ext_part_1.eq_1 @l_ext_part_2.eq_1) (And.intro @l_ext_part_3.eq_1 @l_ext_part_7.eq_1)) (And.intro (And.intro @l_ext_part_8.eq_1 @l_ext_part_9.eq_1) @l_ext_part_12.eq_1))))

end Go.Proofs.Ytilhghpphpcfhaa.Aw
