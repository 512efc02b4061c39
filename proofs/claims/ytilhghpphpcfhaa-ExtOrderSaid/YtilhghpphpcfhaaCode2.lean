/-
  The functions of the seat, translated to abstract code. Written by a program (wip/Gen2.lean).
-/
import Derived.Test.YtilhghpphpcfhaaAwBun
import Derived.Test.YtilhghpphpcfhaaProg
set_option maxRecDepth 100000
set_option linter.all false
namespace Go.Proofs.Ytilhghpphpcfhaa.Aw
open Go.RowKit
/- scoria/scorialaw07.ExtCuts -/
def l_law07_ExtCuts_0 : List AOp := [⟨(some 6), .mv (.k (.bool false)), none, none, [], none⟩]
def ac_law07_ExtCuts_0 : AC := .reg l_law07_ExtCuts_0
def l_law07_ExtCuts_1 : List AOp := [⟨(some 10), .mv (.t 0), none, none, [], none⟩,
  ⟨(some 11), .call false 13 [(.t 10)], none, none, [], none⟩,
  ⟨(some 12), .un .not (.t 11), none, none, [], none⟩]
def ac_law07_ExtCuts_1 : AC := .reg l_law07_ExtCuts_1
def l_law07_ExtCuts_2 : List AOp := [⟨(some 13), .call false 14 [], none, none, [], none⟩,
  ⟨(some 6), .mv (.t 13), none, none, [], none⟩]
def ac_law07_ExtCuts_2 : AC := .reg l_law07_ExtCuts_2
def ac_law07_ExtCuts_3 : AC := .seq ac_law07_ExtCuts_2 .ret
def ac_law07_ExtCuts_4 : AC := .cond (.t 12) ac_law07_ExtCuts_3 .skip
def ac_law07_ExtCuts_5 : AC := .seq ac_law07_ExtCuts_1 ac_law07_ExtCuts_4
def l_law07_ExtCuts_6 : List AOp := [⟨(some 14), .mv (.t 0), none, none, [], none⟩,
  ⟨(some 15), .call false 15 [(.t 14)], none, none, [], none⟩,
  ⟨(some 7), .mv (.t 15), none, none, [], none⟩]
def ac_law07_ExtCuts_6 : AC := .reg l_law07_ExtCuts_6
def l_law07_ExtCuts_7 : List AOp := [⟨(some 17), .mv (.t 0), none, none, [], none⟩,
  ⟨(some 18), .mv (.t 1), none, none, [], none⟩,
  ⟨(some 19), .mv (.t 2), none, none, [], none⟩,
  ⟨(some 20), .call false 16 [(.t 17), (.t 18), (.t 19)], none, none, [], none⟩,
  ⟨(some 16), .mv (.t 20), none, none, [], none⟩,
  ⟨(some 21), .ext 0 (.t 16), none, none, [], none⟩,
  ⟨(some 22), .ext 1 (.t 16), none, none, [], none⟩,
  ⟨(some 8), .mv (.t 21), none, none, [], none⟩,
  ⟨(some 9), .mv (.t 22), none, none, [], none⟩]
def ac_law07_ExtCuts_7 : AC := .reg l_law07_ExtCuts_7
def l_law07_ExtCuts_8 : List AOp := [⟨(some 23), .mv (.t 7), none, none, [], none⟩,
  ⟨(some 24), .call false 17 [(.t 23)], none, none, [], none⟩,
  ⟨(some 25), .un .not (.t 24), none, none, [], none⟩,
  ⟨(some 26), .mv (.t 25), none, none, [], none⟩,
  ⟨(some 27), .mv (.t 1), (some (26, false)), none, [], none⟩,
  ⟨(some 28), .mv (.t 2), (some (26, false)), none, [], none⟩,
  ⟨(some 29), .call false 18 [(.t 27), (.t 28)], (some (26, false)), none, [], none⟩,
  ⟨(some 30), .un .not (.t 29), (some (26, false)), none, [], none⟩,
  ⟨(some 31), .pick (.t 26) (.k (.bool true)) (.t 30), none, none, [], none⟩]
def ac_law07_ExtCuts_8 : AC := .reg l_law07_ExtCuts_8
def l_law07_ExtCuts_9 : List AOp := [⟨(some 32), .call false 14 [], none, none, [], none⟩,
  ⟨(some 33), .mv (.t 32), none, none, [], none⟩,
  ⟨(some 34), .mv (.t 9), (some (33, true)), none, [], none⟩,
  ⟨(some 35), .bin .eql (.t 34) (.k (.int .i64 1)), (some (33, true)), none, [], none⟩,
  ⟨(some 36), .pick (.t 33) (.t 35) (.k (.bool false)), none, none, [], none⟩,
  ⟨(some 37), .mv (.t 36), none, none, [], none⟩,
  ⟨(some 38), .mv (.t 8), (some (37, true)), none, [], none⟩,
  ⟨(some 39), .len (.t 38), (some (37, true)), none, [], none⟩,
  ⟨(some 40), .bin .eql (.t 39) (.k (.int .i64 0)), (some (37, true)), none, [], none⟩,
  ⟨(some 41), .pick (.t 37) (.t 40) (.k (.bool false)), none, none, [], none⟩,
  ⟨(some 6), .mv (.t 41), none, none, [], none⟩]
def ac_law07_ExtCuts_9 : AC := .reg l_law07_ExtCuts_9
def ac_law07_ExtCuts_10 : AC := .seq ac_law07_ExtCuts_9 .ret
def ac_law07_ExtCuts_11 : AC := .cond (.t 31) ac_law07_ExtCuts_10 .skip
def ac_law07_ExtCuts_12 : AC := .seq ac_law07_ExtCuts_8 ac_law07_ExtCuts_11
def l_law07_ExtCuts_13 : List AOp := [⟨(some 42), .call false 14 [], none, none, [], none⟩,
  ⟨(some 43), .mv (.t 42), none, none, [], none⟩,
  ⟨(some 44), .mv (.t 9), (some (43, true)), none, [], none⟩,
  ⟨(some 45), .bin .eql (.t 44) (.k (.int .i64 0)), (some (43, true)), none, [], none⟩,
  ⟨(some 46), .pick (.t 43) (.t 45) (.k (.bool false)), none, none, [], none⟩,
  ⟨(some 47), .mv (.t 46), none, none, [], none⟩,
  ⟨(some 48), .mv (.t 8), (some (47, true)), none, [], none⟩,
  ⟨(some 49), .mv (.t 0), (some (47, true)), none, [], none⟩,
  ⟨(some 50), .mv (.t 1), (some (47, true)), none, [], none⟩,
  ⟨(some 51), .mv (.t 2), (some (47, true)), none, [], none⟩,
  ⟨(some 52), .mv (.t 7), (some (47, true)), none, [], none⟩,
  ⟨(some 53), .call false 19 [(.t 48), (.t 49), (.t 50), (.t 51), (.k (.slc [])), (.t 52)], (some (47, true)), none, [], none⟩,
  ⟨(some 54), .pick (.t 47) (.t 53) (.k (.bool false)), none, none, [], none⟩,
  ⟨(some 6), .mv (.t 54), none, none, [], none⟩]
def ac_law07_ExtCuts_13 : AC := .reg l_law07_ExtCuts_13
def ac_law07_ExtCuts_14 : AC := .seq ac_law07_ExtCuts_13 .ret
def ac_law07_ExtCuts_15 : AC := .seq ac_law07_ExtCuts_12 ac_law07_ExtCuts_14
def ac_law07_ExtCuts_16 : AC := .seq ac_law07_ExtCuts_7 ac_law07_ExtCuts_15
def ac_law07_ExtCuts_17 : AC := .seq ac_law07_ExtCuts_6 ac_law07_ExtCuts_16
def ac_law07_ExtCuts_18 : AC := .seq ac_law07_ExtCuts_5 ac_law07_ExtCuts_17
def ac_law07_ExtCuts_19 : AC := .seq ac_law07_ExtCuts_0 ac_law07_ExtCuts_18
def ac_law07_ExtCuts : AC := ac_law07_ExtCuts_19
theorem comp_law07_ExtCuts : compF Try.prog [] (drawR Try.prog [] Try.f3.ntmps) [] 3 Try.f3 = some (ac_law07_ExtCuts, [.t 6]) := by kernel_rfl
def U_law07_ExtCuts := (And.intro (And.intro (And.intro (And.intro (And.intro @ac_law07_ExtCuts.eq_1 (@mR _ _ ac_law07_ExtCuts_0.eq_1)) (And.intro (@mR _ _ ac_law07_ExtCuts_1.eq_1) (@mR _ _ ac_law07_ExtCuts_2.eq_1))) (And.intro (And.intro (@mU _ _ ac_law07_ExtCuts_3.eq_1) (@mU _ _ ac_law07_ExtCuts_4.eq_1)) (And.intro (@mU _ _ ac_law07_ExtCuts_5.eq_1) (@mR _ _ ac_law07_ExtCuts_6.eq_1)))) (And.intro (And.intro (And.intro (@mR _ _ ac_law07_ExtCuts_7.eq_1) (@mR _ _ ac_law07_ExtCuts_8.eq_1)) (And.intro (@mR _ _ ac_law07_ExtCuts_9.eq_1) (@mU _ _ ac_law07_ExtCuts_10.eq_1))) (And.intro (And.intro (@mU _ _ ac_law07_ExtCuts_11.eq_1) (@mU _ _ ac_law07_ExtCuts_12.eq_1)) (@mR _ _ ac_law07_ExtCuts_13.eq_1)))) (And.intro (And.intro (And.intro (And.intro (@mU _ _ ac_law07_ExtCuts_14.eq_1) (@mU _ _ ac_law07_ExtCuts_15.eq_1)) (And.intro (@mU _ _ ac_law07_ExtCuts_16.eq_1) (@mU _ _ ac_law07_ExtCuts_17.eq_1))) (And.intro (And.intro (@mU _ _ ac_law07_ExtCuts_18.eq_1) (@mU _ _ ac_law07_ExtCuts_19.eq_1)) @l_law07_ExtCuts_0.eq_1)) (And.intro (And.intro (And.intro @l_law07_ExtCuts_1.eq_1 @l_law07_ExtCuts_2.eq_1) (And.intro @l_law07_ExtCuts_6.eq_1 @l_law07_ExtCuts_7.eq_1)) (And.intro (And.intro @l_law07_ExtCuts_8.eq_1 @l_law07_ExtCuts_9.eq_1) @l_law07_ExtCuts_13.eq_1))))

/- scoria/scorialaw07.ExtOvers -/
def l_law07_ExtOvers_0 : List AOp := [⟨(some 3), .box (.t 1), none, none, [], none⟩,
  ⟨(some 4), .mv (.k (.bool false)), none, none, [], none⟩]
def ac_law07_ExtOvers_0 : AC := .reg l_law07_ExtOvers_0
def l_law07_ExtOvers_1 : List AOp := [⟨(some 9), .mv (.t 0), none, none, [], none⟩,
  ⟨(some 10), .call false 13 [(.t 9)], none, none, [], none⟩,
  ⟨(some 11), .un .not (.t 10), none, none, [], none⟩]
def ac_law07_ExtOvers_1 : AC := .reg l_law07_ExtOvers_1
def l_law07_ExtOvers_2 : List AOp := [⟨(some 12), .call false 14 [], none, none, [], none⟩,
  ⟨(some 4), .mv (.t 12), none, none, [], none⟩]
def ac_law07_ExtOvers_2 : AC := .reg l_law07_ExtOvers_2
def ac_law07_ExtOvers_3 : AC := .seq ac_law07_ExtOvers_2 .ret
def ac_law07_ExtOvers_4 : AC := .cond (.t 11) ac_law07_ExtOvers_3 .skip
def ac_law07_ExtOvers_5 : AC := .seq ac_law07_ExtOvers_1 ac_law07_ExtOvers_4
def l_law07_ExtOvers_6 : List AOp := [⟨(some 13), .mv (.t 0), none, none, [], none⟩,
  ⟨(some 14), .call false 15 [(.t 13)], none, none, [0], none⟩,
  ⟨(some 15), .load (some 4) (.t 3), none, none, [0], none⟩,
  ⟨(some 6), .alloc [(.int .i64 0), (.int .i64 0), (.int .i64 0), (.int .i64 0)], none, (some 0), [], none⟩,
  ⟨(some 5), .mv (.t 14), none, none, [], none⟩,
  ⟨none, .store 4 (.t 6) (.t 15), none, none, [], none⟩]
def ac_law07_ExtOvers_6 : AC := .dreg 1 l_law07_ExtOvers_6
def l_law07_ExtOvers_7 : List AOp := [⟨(some 17), .mv (.t 0), none, none, [], none⟩,
  ⟨(some 18), .load (some 4) (.t 3), none, none, [], none⟩,
  ⟨(some 19), .call false 20 [(.t 17), (.t 18)], none, none, [], none⟩,
  ⟨(some 16), .mv (.t 19), none, none, [], none⟩,
  ⟨(some 20), .ext 0 (.t 16), none, none, [], none⟩,
  ⟨(some 21), .ext 1 (.t 16), none, none, [], none⟩,
  ⟨(some 7), .mv (.t 20), none, none, [], none⟩,
  ⟨(some 8), .mv (.t 21), none, none, [], none⟩]
def ac_law07_ExtOvers_7 : AC := .reg l_law07_ExtOvers_7
def l_law07_ExtOvers_8 : List AOp := [⟨(some 22), .mv (.t 5), none, none, [], none⟩,
  ⟨(some 23), .call false 17 [(.t 22)], none, none, [], none⟩,
  ⟨(some 24), .un .not (.t 23), none, none, [], none⟩,
  ⟨(some 25), .mv (.t 24), none, none, [], none⟩,
  ⟨(some 26), .load (some 4) (.t 6), (some (25, false)), none, [], none⟩,
  ⟨(some 27), .call false 21 [(.t 26)], (some (25, false)), none, [], none⟩,
  ⟨(some 28), .un .not (.t 27), (some (25, false)), none, [], none⟩,
  ⟨(some 29), .pick (.t 25) (.k (.bool true)) (.t 28), none, none, [], none⟩]
def ac_law07_ExtOvers_8 : AC := .reg l_law07_ExtOvers_8
def l_law07_ExtOvers_9 : List AOp := [⟨(some 30), .call false 14 [], none, none, [], none⟩,
  ⟨(some 31), .mv (.t 30), none, none, [], none⟩,
  ⟨(some 32), .mv (.t 8), (some (31, true)), none, [], none⟩,
  ⟨(some 33), .bin .eql (.t 32) (.k (.int .i64 1)), (some (31, true)), none, [], none⟩,
  ⟨(some 34), .pick (.t 31) (.t 33) (.k (.bool false)), none, none, [], none⟩,
  ⟨(some 35), .mv (.t 34), none, none, [], none⟩,
  ⟨(some 36), .mv (.t 7), (some (35, true)), none, [], none⟩,
  ⟨(some 37), .len (.t 36), (some (35, true)), none, [], none⟩,
  ⟨(some 38), .bin .eql (.t 37) (.k (.int .i64 0)), (some (35, true)), none, [], none⟩,
  ⟨(some 39), .pick (.t 35) (.t 38) (.k (.bool false)), none, none, [], none⟩,
  ⟨(some 4), .mv (.t 39), none, none, [], none⟩]
def ac_law07_ExtOvers_9 : AC := .reg l_law07_ExtOvers_9
def ac_law07_ExtOvers_10 : AC := .seq ac_law07_ExtOvers_9 .ret
def ac_law07_ExtOvers_11 : AC := .cond (.t 29) ac_law07_ExtOvers_10 .skip
def ac_law07_ExtOvers_12 : AC := .seq ac_law07_ExtOvers_8 ac_law07_ExtOvers_11
def l_law07_ExtOvers_13 : List AOp := [⟨(some 40), .call false 14 [], none, none, [], none⟩,
  ⟨(some 41), .mv (.t 40), none, none, [], none⟩,
  ⟨(some 42), .mv (.t 8), (some (41, true)), none, [], none⟩,
  ⟨(some 43), .bin .eql (.t 42) (.k (.int .i64 0)), (some (41, true)), none, [], none⟩,
  ⟨(some 44), .pick (.t 41) (.t 43) (.k (.bool false)), none, none, [], none⟩,
  ⟨(some 45), .mv (.t 44), none, none, [], none⟩,
  ⟨(some 46), .mv (.t 7), (some (45, true)), none, [], none⟩,
  ⟨(some 47), .mv (.t 0), (some (45, true)), none, [], none⟩,
  ⟨(some 48), .faddr 0 (.t 3), (some (45, true)), none, [], none⟩,
  ⟨(some 49), .load none (.t 48), (some (45, true)), none, [], none⟩,
  ⟨(some 50), .faddr 1 (.t 3), (some (45, true)), none, [], none⟩,
  ⟨(some 51), .load none (.t 50), (some (45, true)), none, [], none⟩,
  ⟨(some 52), .load (some 4) (.t 6), (some (45, true)), none, [], none⟩,
  ⟨(some 53), .blds false [(.int .i64 0), (.int .i64 0), (.int .i64 0), (.int .i64 0)] 1 [(0, (.t 52))], (some (45, true)), none, [], none⟩,
  ⟨(some 54), .mv (.t 5), (some (45, true)), none, [], none⟩,
  ⟨(some 55), .call false 19 [(.t 46), (.t 47), (.t 49), (.t 51), (.t 53), (.t 54)], (some (45, true)), none, [], none⟩,
  ⟨(some 56), .pick (.t 45) (.t 55) (.k (.bool false)), none, none, [], none⟩,
  ⟨(some 4), .mv (.t 56), none, none, [], none⟩]
def ac_law07_ExtOvers_13 : AC := .reg l_law07_ExtOvers_13
def ac_law07_ExtOvers_14 : AC := .seq ac_law07_ExtOvers_13 .ret
def ac_law07_ExtOvers_15 : AC := .seq ac_law07_ExtOvers_12 ac_law07_ExtOvers_14
def ac_law07_ExtOvers_16 : AC := .seq ac_law07_ExtOvers_7 ac_law07_ExtOvers_15
def ac_law07_ExtOvers_17 : AC := .seq ac_law07_ExtOvers_6 ac_law07_ExtOvers_16
def ac_law07_ExtOvers_18 : AC := .seq ac_law07_ExtOvers_5 ac_law07_ExtOvers_17
def ac_law07_ExtOvers_19 : AC := .seq ac_law07_ExtOvers_0 ac_law07_ExtOvers_18
def ac_law07_ExtOvers : AC := ac_law07_ExtOvers_19
theorem comp_law07_ExtOvers : compF Try.prog [] (drawR Try.prog [] Try.f4.ntmps) [] 2 Try.f4 = some (ac_law07_ExtOvers, [.t 4]) := by kernel_rfl
def U_law07_ExtOvers := (And.intro (And.intro (And.intro (And.intro (And.intro @ac_law07_ExtOvers.eq_1 (@mR _ _ ac_law07_ExtOvers_0.eq_1)) (And.intro (@mR _ _ ac_law07_ExtOvers_1.eq_1) (@mR _ _ ac_law07_ExtOvers_2.eq_1))) (And.intro (And.intro (@mU _ _ ac_law07_ExtOvers_3.eq_1) (@mU _ _ ac_law07_ExtOvers_4.eq_1)) (And.intro (@mU _ _ ac_law07_ExtOvers_5.eq_1) (@mD _ _ _ ac_law07_ExtOvers_6.eq_1)))) (And.intro (And.intro (And.intro (@mR _ _ ac_law07_ExtOvers_7.eq_1) (@mR _ _ ac_law07_ExtOvers_8.eq_1)) (And.intro (@mR _ _ ac_law07_ExtOvers_9.eq_1) (@mU _ _ ac_law07_ExtOvers_10.eq_1))) (And.intro (And.intro (@mU _ _ ac_law07_ExtOvers_11.eq_1) (@mU _ _ ac_law07_ExtOvers_12.eq_1)) (@mR _ _ ac_law07_ExtOvers_13.eq_1)))) (And.intro (And.intro (And.intro (And.intro (@mU _ _ ac_law07_ExtOvers_14.eq_1) (@mU _ _ ac_law07_ExtOvers_15.eq_1)) (And.intro (@mU _ _ ac_law07_ExtOvers_16.eq_1) (@mU _ _ ac_law07_ExtOvers_17.eq_1))) (And.intro (And.intro (@mU _ _ ac_law07_ExtOvers_18.eq_1) (@mU _ _ ac_law07_ExtOvers_19.eq_1)) @l_law07_ExtOvers_0.eq_1)) (And.intro (And.intro (And.intro @l_law07_ExtOvers_1.eq_1 @l_law07_ExtOvers_2.eq_1) (And.intro @l_law07_ExtOvers_6.eq_1 @l_law07_ExtOvers_7.eq_1)) (And.intro (And.intro @l_law07_ExtOvers_8.eq_1 @l_law07_ExtOvers_9.eq_1) @l_law07_ExtOvers_13.eq_1))))

/- scoria/scorialaw07.ExtOnce -/
def l_law07_ExtOnce_0 : List AOp := [⟨(some 4), .box (.t 1), none, none, [], none⟩,
  ⟨(some 5), .box (.t 2), none, none, [], none⟩,
  ⟨(some 6), .mv (.k (.bool false)), none, none, [], none⟩]
def ac_law07_ExtOnce_0 : AC := .reg l_law07_ExtOnce_0
def l_law07_ExtOnce_1 : List AOp := [⟨(some 24), .mv (.t 0), none, none, [], none⟩,
  ⟨(some 25), .load (some 4) (.t 4), none, none, [], none⟩,
  ⟨(some 26), .call false 20 [(.t 24), (.t 25)], none, none, [], none⟩,
  ⟨(some 23), .mv (.t 26), none, none, [], none⟩,
  ⟨(some 27), .ext 0 (.t 23), none, none, [], none⟩,
  ⟨(some 28), .ext 1 (.t 23), none, none, [], none⟩,
  ⟨(some 7), .mv (.t 27), none, none, [], none⟩,
  ⟨(some 8), .mv (.t 28), none, none, [], none⟩]
def ac_law07_ExtOnce_1 : AC := .reg l_law07_ExtOnce_1
def l_law07_ExtOnce_2 : List AOp := [⟨(some 29), .mv (.t 0), none, none, [], none⟩,
  ⟨(some 30), .call false 13 [(.t 29)], none, none, [], none⟩,
  ⟨(some 31), .un .not (.t 30), none, none, [], none⟩,
  ⟨(some 32), .mv (.t 31), none, none, [], none⟩,
  ⟨(some 33), .mv (.t 8), (some (32, false)), none, [], none⟩,
  ⟨(some 34), .bin .neq (.t 33) (.k (.int .i64 0)), (some (32, false)), none, [], none⟩,
  ⟨(some 35), .pick (.t 32) (.k (.bool true)) (.t 34), none, none, [], none⟩,
  ⟨(some 36), .mv (.t 35), none, none, [], none⟩,
  ⟨(some 37), .load (some 4) (.t 5), (some (36, false)), none, [], none⟩,
  ⟨(some 38), .call false 21 [(.t 37)], (some (36, false)), none, [], none⟩,
  ⟨(some 39), .un .not (.t 38), (some (36, false)), none, [], none⟩,
  ⟨(some 40), .pick (.t 36) (.k (.bool true)) (.t 39), none, none, [], none⟩]
def ac_law07_ExtOnce_2 : AC := .reg l_law07_ExtOnce_2
def l_law07_ExtOnce_3 : List AOp := [⟨(some 41), .call false 14 [], none, none, [], none⟩,
  ⟨(some 6), .mv (.t 41), none, none, [], none⟩]
def ac_law07_ExtOnce_3 : AC := .reg l_law07_ExtOnce_3
def ac_law07_ExtOnce_4 : AC := .seq ac_law07_ExtOnce_3 .ret
def ac_law07_ExtOnce_5 : AC := .cond (.t 40) ac_law07_ExtOnce_4 .skip
def ac_law07_ExtOnce_6 : AC := .seq ac_law07_ExtOnce_2 ac_law07_ExtOnce_5
def l_law07_ExtOnce_7 : List AOp := [⟨(some 43), .mv (.t 7), none, none, [], none⟩,
  ⟨(some 44), .load (some 4) (.t 4), none, none, [], none⟩,
  ⟨(some 45), .call false 20 [(.t 43), (.t 44)], none, none, [], none⟩,
  ⟨(some 42), .mv (.t 45), none, none, [], none⟩,
  ⟨(some 46), .ext 0 (.t 42), none, none, [], none⟩,
  ⟨(some 47), .ext 1 (.t 42), none, none, [], none⟩,
  ⟨(some 9), .mv (.t 46), none, none, [], none⟩,
  ⟨(some 10), .mv (.t 47), none, none, [], none⟩]
def ac_law07_ExtOnce_7 : AC := .reg l_law07_ExtOnce_7
def l_law07_ExtOnce_8 : List AOp := [⟨(some 49), .mv (.t 0), none, none, [], none⟩,
  ⟨(some 50), .faddr 0 (.t 4), none, none, [], none⟩,
  ⟨(some 51), .load none (.t 50), none, none, [], none⟩,
  ⟨(some 52), .faddr 1 (.t 4), none, none, [], none⟩,
  ⟨(some 53), .load none (.t 52), none, none, [], none⟩,
  ⟨(some 54), .call false 16 [(.t 49), (.t 51), (.t 53)], none, none, [], none⟩,
  ⟨(some 48), .mv (.t 54), none, none, [], none⟩,
  ⟨(some 55), .ext 0 (.t 48), none, none, [], none⟩,
  ⟨(some 56), .ext 1 (.t 48), none, none, [], none⟩,
  ⟨(some 11), .mv (.t 55), none, none, [], none⟩,
  ⟨(some 12), .mv (.t 56), none, none, [], none⟩]
def ac_law07_ExtOnce_8 : AC := .reg l_law07_ExtOnce_8
def l_law07_ExtOnce_9 : List AOp := [⟨(some 58), .mv (.t 7), none, none, [], none⟩,
  ⟨(some 59), .faddr 0 (.t 4), none, none, [], none⟩,
  ⟨(some 60), .load none (.t 59), none, none, [], none⟩,
  ⟨(some 61), .faddr 1 (.t 4), none, none, [], none⟩,
  ⟨(some 62), .load none (.t 61), none, none, [], none⟩,
  ⟨(some 63), .call false 16 [(.t 58), (.t 60), (.t 62)], none, none, [], none⟩,
  ⟨(some 57), .mv (.t 63), none, none, [], none⟩,
  ⟨(some 64), .ext 0 (.t 57), none, none, [], none⟩,
  ⟨(some 65), .ext 1 (.t 57), none, none, [], none⟩,
  ⟨(some 13), .mv (.t 64), none, none, [], none⟩,
  ⟨(some 14), .mv (.t 65), none, none, [], none⟩]
def ac_law07_ExtOnce_9 : AC := .reg l_law07_ExtOnce_9
def l_law07_ExtOnce_10 : List AOp := [⟨(some 67), .mv (.t 11), none, none, [], none⟩,
  ⟨(some 68), .faddr 0 (.t 4), none, none, [], none⟩,
  ⟨(some 69), .load none (.t 68), none, none, [], none⟩,
  ⟨(some 70), .faddr 1 (.t 4), none, none, [], none⟩,
  ⟨(some 71), .load none (.t 70), none, none, [], none⟩,
  ⟨(some 72), .call false 16 [(.t 67), (.t 69), (.t 71)], none, none, [], none⟩,
  ⟨(some 66), .mv (.t 72), none, none, [], none⟩,
  ⟨(some 73), .ext 0 (.t 66), none, none, [], none⟩,
  ⟨(some 74), .ext 1 (.t 66), none, none, [], none⟩,
  ⟨(some 15), .mv (.t 73), none, none, [], none⟩,
  ⟨(some 16), .mv (.t 74), none, none, [], none⟩]
def ac_law07_ExtOnce_10 : AC := .reg l_law07_ExtOnce_10
def l_law07_ExtOnce_11 : List AOp := [⟨(some 75), .mv (.t 10), none, none, [], none⟩,
  ⟨(some 76), .bin .neq (.t 75) (.k (.int .i64 0)), none, none, [], none⟩,
  ⟨(some 77), .mv (.t 76), none, none, [], none⟩,
  ⟨(some 78), .mv (.t 12), (some (77, false)), none, [], none⟩,
  ⟨(some 79), .bin .neq (.t 78) (.k (.int .i64 0)), (some (77, false)), none, [], none⟩,
  ⟨(some 80), .pick (.t 77) (.k (.bool true)) (.t 79), none, none, [], none⟩,
  ⟨(some 81), .mv (.t 80), none, none, [], none⟩,
  ⟨(some 82), .mv (.t 14), (some (81, false)), none, [], none⟩,
  ⟨(some 83), .bin .neq (.t 82) (.k (.int .i64 0)), (some (81, false)), none, [], none⟩,
  ⟨(some 84), .pick (.t 81) (.k (.bool true)) (.t 83), none, none, [], none⟩,
  ⟨(some 85), .mv (.t 84), none, none, [], none⟩,
  ⟨(some 86), .mv (.t 16), (some (85, false)), none, [], none⟩,
  ⟨(some 87), .bin .neq (.t 86) (.k (.int .i64 0)), (some (85, false)), none, [], none⟩,
  ⟨(some 88), .pick (.t 85) (.k (.bool true)) (.t 87), none, none, [], none⟩,
  ⟨(some 89), .mv (.t 88), none, none, [], none⟩,
  ⟨(some 90), .mv (.t 7), (some (89, false)), none, [], none⟩,
  ⟨(some 91), .mv (.t 9), (some (89, false)), none, [], none⟩,
  ⟨(some 92), .call false 22 [(.t 90), (.t 91)], (some (89, false)), none, [], none⟩,
  ⟨(some 93), .un .not (.t 92), (some (89, false)), none, [], none⟩,
  ⟨(some 94), .pick (.t 89) (.k (.bool true)) (.t 93), none, none, [], none⟩,
  ⟨(some 95), .mv (.t 94), none, none, [], none⟩,
  ⟨(some 96), .mv (.t 11), (some (95, false)), none, [], none⟩,
  ⟨(some 97), .mv (.t 13), (some (95, false)), none, [], none⟩,
  ⟨(some 98), .call false 22 [(.t 96), (.t 97)], (some (95, false)), none, [], none⟩,
  ⟨(some 99), .un .not (.t 98), (some (95, false)), none, [], none⟩,
  ⟨(some 100), .pick (.t 95) (.k (.bool true)) (.t 99), none, none, [], none⟩,
  ⟨(some 101), .mv (.t 100), none, none, [], none⟩,
  ⟨(some 102), .mv (.t 11), (some (101, false)), none, [], none⟩,
  ⟨(some 103), .mv (.t 15), (some (101, false)), none, [], none⟩,
  ⟨(some 104), .call false 22 [(.t 102), (.t 103)], (some (101, false)), none, [], none⟩,
  ⟨(some 105), .un .not (.t 104), (some (101, false)), none, [], none⟩,
  ⟨(some 106), .pick (.t 101) (.k (.bool true)) (.t 105), none, none, [], none⟩]
def ac_law07_ExtOnce_11 : AC := .reg l_law07_ExtOnce_11
def l_law07_ExtOnce_12 : List AOp := [⟨(some 6), .mv (.k (.bool false)), none, none, [], none⟩]
def ac_law07_ExtOnce_12 : AC := .reg l_law07_ExtOnce_12
def ac_law07_ExtOnce_13 : AC := .seq ac_law07_ExtOnce_12 .ret
def ac_law07_ExtOnce_14 : AC := .cond (.t 106) ac_law07_ExtOnce_13 .skip
def ac_law07_ExtOnce_15 : AC := .seq ac_law07_ExtOnce_11 ac_law07_ExtOnce_14
def l_law07_ExtOnce_16 : List AOp := [⟨(some 107), .faddr 0 (.t 4), none, none, [], none⟩,
  ⟨(some 108), .load none (.t 107), none, none, [], none⟩,
  ⟨(some 109), .faddr 0 (.t 5), none, none, [], none⟩,
  ⟨(some 110), .load none (.t 109), none, none, [], none⟩,
  ⟨(some 111), .bin .sub (.t 108) (.t 110), none, none, [], none⟩,
  ⟨(some 112), .faddr 1 (.t 5), none, none, [], none⟩,
  ⟨(some 113), .load none (.t 112), none, none, [], none⟩,
  ⟨(some 114), .bin .lss (.t 111) (.t 113), none, none, [], none⟩,
  ⟨(some 115), .mv (.t 114), none, none, [], none⟩,
  ⟨(some 116), .faddr 0 (.t 5), (some (115, true)), none, [], none⟩,
  ⟨(some 117), .load none (.t 116), (some (115, true)), none, [], none⟩,
  ⟨(some 118), .faddr 0 (.t 4), (some (115, true)), none, [], none⟩,
  ⟨(some 119), .load none (.t 118), (some (115, true)), none, [], none⟩,
  ⟨(some 120), .bin .sub (.t 117) (.t 119), (some (115, true)), none, [], none⟩,
  ⟨(some 121), .faddr 1 (.t 4), (some (115, true)), none, [], none⟩,
  ⟨(some 122), .load none (.t 121), (some (115, true)), none, [], none⟩,
  ⟨(some 123), .bin .lss (.t 120) (.t 122), (some (115, true)), none, [], none⟩,
  ⟨(some 124), .pick (.t 115) (.t 123) (.k (.bool false)), none, none, [], none⟩]
def ac_law07_ExtOnce_16 : AC := .reg l_law07_ExtOnce_16
def l_law07_ExtOnce_17 : List AOp := [⟨(some 125), .call false 14 [], none, none, [], none⟩,
  ⟨(some 6), .mv (.t 125), none, none, [], none⟩]
def ac_law07_ExtOnce_17 : AC := .reg l_law07_ExtOnce_17
def ac_law07_ExtOnce_18 : AC := .seq ac_law07_ExtOnce_17 .ret
def ac_law07_ExtOnce_19 : AC := .cond (.t 124) ac_law07_ExtOnce_18 .skip
def ac_law07_ExtOnce_20 : AC := .seq ac_law07_ExtOnce_16 ac_law07_ExtOnce_19
def l_law07_ExtOnce_21 : List AOp := [⟨(some 127), .mv (.t 7), none, none, [], none⟩,
  ⟨(some 128), .load (some 4) (.t 5), none, none, [], none⟩,
  ⟨(some 129), .call false 20 [(.t 127), (.t 128)], none, none, [], none⟩,
  ⟨(some 126), .mv (.t 129), none, none, [], none⟩,
  ⟨(some 130), .ext 0 (.t 126), none, none, [], none⟩,
  ⟨(some 131), .ext 1 (.t 126), none, none, [], none⟩,
  ⟨(some 17), .mv (.t 130), none, none, [], none⟩,
  ⟨(some 18), .mv (.t 131), none, none, [], none⟩]
def ac_law07_ExtOnce_21 : AC := .reg l_law07_ExtOnce_21
def l_law07_ExtOnce_22 : List AOp := [⟨(some 133), .mv (.t 0), none, none, [], none⟩,
  ⟨(some 134), .load (some 4) (.t 5), none, none, [], none⟩,
  ⟨(some 135), .call false 20 [(.t 133), (.t 134)], none, none, [], none⟩,
  ⟨(some 132), .mv (.t 135), none, none, [], none⟩,
  ⟨(some 136), .ext 0 (.t 132), none, none, [], none⟩,
  ⟨(some 137), .ext 1 (.t 132), none, none, [], none⟩,
  ⟨(some 19), .mv (.t 136), none, none, [], none⟩,
  ⟨(some 20), .mv (.t 137), none, none, [], none⟩]
def ac_law07_ExtOnce_22 : AC := .reg l_law07_ExtOnce_22
def l_law07_ExtOnce_23 : List AOp := [⟨(some 139), .mv (.t 19), none, none, [], none⟩,
  ⟨(some 140), .load (some 4) (.t 4), none, none, [], none⟩,
  ⟨(some 141), .call false 20 [(.t 139), (.t 140)], none, none, [], none⟩,
  ⟨(some 138), .mv (.t 141), none, none, [], none⟩,
  ⟨(some 142), .ext 0 (.t 138), none, none, [], none⟩,
  ⟨(some 143), .ext 1 (.t 138), none, none, [], none⟩,
  ⟨(some 21), .mv (.t 142), none, none, [], none⟩,
  ⟨(some 22), .mv (.t 143), none, none, [], none⟩]
def ac_law07_ExtOnce_23 : AC := .reg l_law07_ExtOnce_23
def l_law07_ExtOnce_24 : List AOp := [⟨(some 144), .call false 14 [], none, none, [], none⟩,
  ⟨(some 145), .mv (.t 144), none, none, [], none⟩,
  ⟨(some 146), .mv (.t 18), (some (145, true)), none, [], none⟩,
  ⟨(some 147), .bin .eql (.t 146) (.k (.int .i64 0)), (some (145, true)), none, [], none⟩,
  ⟨(some 148), .pick (.t 145) (.t 147) (.k (.bool false)), none, none, [], none⟩,
  ⟨(some 149), .mv (.t 148), none, none, [], none⟩,
  ⟨(some 150), .mv (.t 20), (some (149, true)), none, [], none⟩,
  ⟨(some 151), .bin .eql (.t 150) (.k (.int .i64 0)), (some (149, true)), none, [], none⟩,
  ⟨(some 152), .pick (.t 149) (.t 151) (.k (.bool false)), none, none, [], none⟩,
  ⟨(some 153), .mv (.t 152), none, none, [], none⟩,
  ⟨(some 154), .mv (.t 22), (some (153, true)), none, [], none⟩,
  ⟨(some 155), .bin .eql (.t 154) (.k (.int .i64 0)), (some (153, true)), none, [], none⟩,
  ⟨(some 156), .pick (.t 153) (.t 155) (.k (.bool false)), none, none, [], none⟩,
  ⟨(some 157), .mv (.t 156), none, none, [], none⟩,
  ⟨(some 158), .mv (.t 17), (some (157, true)), none, [], none⟩,
  ⟨(some 159), .mv (.t 21), (some (157, true)), none, [], none⟩,
  ⟨(some 160), .call false 22 [(.t 158), (.t 159)], (some (157, true)), none, [], none⟩,
  ⟨(some 161), .pick (.t 157) (.t 160) (.k (.bool false)), none, none, [], none⟩,
  ⟨(some 6), .mv (.t 161), none, none, [], none⟩]
def ac_law07_ExtOnce_24 : AC := .reg l_law07_ExtOnce_24
def ac_law07_ExtOnce_25 : AC := .seq ac_law07_ExtOnce_24 .ret
def ac_law07_ExtOnce_26 : AC := .seq ac_law07_ExtOnce_23 ac_law07_ExtOnce_25
def ac_law07_ExtOnce_27 : AC := .seq ac_law07_ExtOnce_22 ac_law07_ExtOnce_26
def ac_law07_ExtOnce_28 : AC := .seq ac_law07_ExtOnce_21 ac_law07_ExtOnce_27
def ac_law07_ExtOnce_29 : AC := .seq ac_law07_ExtOnce_20 ac_law07_ExtOnce_28
def ac_law07_ExtOnce_30 : AC := .seq ac_law07_ExtOnce_15 ac_law07_ExtOnce_29
def ac_law07_ExtOnce_31 : AC := .seq ac_law07_ExtOnce_10 ac_law07_ExtOnce_30
def ac_law07_ExtOnce_32 : AC := .seq ac_law07_ExtOnce_9 ac_law07_ExtOnce_31
def ac_law07_ExtOnce_33 : AC := .seq ac_law07_ExtOnce_8 ac_law07_ExtOnce_32
def ac_law07_ExtOnce_34 : AC := .seq ac_law07_ExtOnce_7 ac_law07_ExtOnce_33
def ac_law07_ExtOnce_35 : AC := .seq ac_law07_ExtOnce_6 ac_law07_ExtOnce_34
def ac_law07_ExtOnce_36 : AC := .seq ac_law07_ExtOnce_1 ac_law07_ExtOnce_35
def ac_law07_ExtOnce_37 : AC := .seq ac_law07_ExtOnce_0 ac_law07_ExtOnce_36
def ac_law07_ExtOnce : AC := ac_law07_ExtOnce_37
theorem comp_law07_ExtOnce : compF Try.prog [] (drawR Try.prog [] Try.f5.ntmps) [] 3 Try.f5 = some (ac_law07_ExtOnce, [.t 6]) := by kernel_rfl
def U_law07_ExtOnce := (And.intro (And.intro (And.intro (And.intro (And.intro (And.intro @ac_law07_ExtOnce.eq_1 (@mR _ _ ac_law07_ExtOnce_0.eq_1)) (And.intro (@mR _ _ ac_law07_ExtOnce_1.eq_1) (@mR _ _ ac_law07_ExtOnce_2.eq_1))) (And.intro (And.intro (@mR _ _ ac_law07_ExtOnce_3.eq_1) (@mU _ _ ac_law07_ExtOnce_4.eq_1)) (@mU _ _ ac_law07_ExtOnce_5.eq_1))) (And.intro (And.intro (And.intro (@mU _ _ ac_law07_ExtOnce_6.eq_1) (@mR _ _ ac_law07_ExtOnce_7.eq_1)) (And.intro (@mR _ _ ac_law07_ExtOnce_8.eq_1) (@mR _ _ ac_law07_ExtOnce_9.eq_1))) (And.intro (And.intro (@mR _ _ ac_law07_ExtOnce_10.eq_1) (@mR _ _ ac_law07_ExtOnce_11.eq_1)) (@mR _ _ ac_law07_ExtOnce_12.eq_1)))) (And.intro (And.intro (And.intro (And.intro (@mU _ _ ac_law07_ExtOnce_13.eq_1) (@mU _ _ ac_law07_ExtOnce_14.eq_1)) (And.intro (@mU _ _ ac_law07_ExtOnce_15.eq_1) (@mR _ _ ac_law07_ExtOnce_16.eq_1))) (And.intro (And.intro (@mR _ _ ac_law07_ExtOnce_17.eq_1) (@mU _ _ ac_law07_ExtOnce_18.eq_1)) (@mU _ _ ac_law07_ExtOnce_19.eq_1))) (And.intro (And.intro (And.intro (@mU _ _ ac_law07_ExtOnce_20.eq_1) (@mR _ _ ac_law07_ExtOnce_21.eq_1)) (And.intro (@mR _ _ ac_law07_ExtOnce_22.eq_1) (@mR _ _ ac_law07_ExtOnce_23.eq_1))) (And.intro (And.intro (@mR _ _ ac_law07_ExtOnce_24.eq_1) (@mU _ _ ac_law07_ExtOnce_25.eq_1)) (@mU _ _ ac_law07_ExtOnce_26.eq_1))))) (And.intro (And.intro (And.intro (And.intro (And.intro (@mU _ _ ac_law07_ExtOnce_27.eq_1) (@mU _ _ ac_law07_ExtOnce_28.eq_1)) (And.intro (@mU _ _ ac_law07_ExtOnce_29.eq_1) (@mU _ _ ac_law07_ExtOnce_30.eq_1))) (And.intro (And.intro (@mU _ _ ac_law07_ExtOnce_31.eq_1) (@mU _ _ ac_law07_ExtOnce_32.eq_1)) (@mU _ _ ac_law07_ExtOnce_33.eq_1))) (And.intro (And.intro (And.intro (@mU _ _ ac_law07_ExtOnce_34.eq_1) (@mU _ _ ac_law07_ExtOnce_35.eq_1)) (And.intro (@mU _ _ ac_law07_ExtOnce_36.eq_1) (@mU _ _ ac_law07_ExtOnce_37.eq_1))) (And.intro (And.intro @l_law07_ExtOnce_0.eq_1 @l_law07_ExtOnce_1.eq_1) @l_law07_ExtOnce_2.eq_1))) (And.intro (And.intro (And.intro (And.intro @l_law07_ExtOnce_3.eq_1 @l_law07_ExtOnce_7.eq_1) (And.intro @l_law07_ExtOnce_8.eq_1 @l_law07_ExtOnce_9.eq_1)) (And.intro (And.intro @l_law07_ExtOnce_10.eq_1 @l_law07_ExtOnce_11.eq_1) @l_law07_ExtOnce_12.eq_1)) (And.intro (And.intro (And.intro @l_law07_ExtOnce_16.eq_1 @l_law07_ExtOnce_17.eq_1) @l_law07_ExtOnce_21.eq_1) (And.intro (And.intro @l_law07_ExtOnce_22.eq_1 @l_law07_ExtOnce_23.eq_1) @l_law07_ExtOnce_24.eq_1)))))

/- scoria/scorialaw07.ExtOrder -/
def l_law07_ExtOrder_0 : List AOp := [⟨(some 4), .box (.t 1), none, none, [], none⟩,
  ⟨(some 5), .box (.t 2), none, none, [], none⟩,
  ⟨(some 6), .mv (.k (.bool false)), none, none, [], none⟩]
def ac_law07_ExtOrder_0 : AC := .reg l_law07_ExtOrder_0
def l_law07_ExtOrder_1 : List AOp := [⟨(some 15), .mv (.t 0), none, none, [], none⟩,
  ⟨(some 16), .call false 13 [(.t 15)], none, none, [], none⟩,
  ⟨(some 17), .un .not (.t 16), none, none, [], none⟩]
def ac_law07_ExtOrder_1 : AC := .reg l_law07_ExtOrder_1
def l_law07_ExtOrder_2 : List AOp := [⟨(some 18), .call false 14 [], none, none, [], none⟩,
  ⟨(some 6), .mv (.t 18), none, none, [], none⟩]
def ac_law07_ExtOrder_2 : AC := .reg l_law07_ExtOrder_2
def ac_law07_ExtOrder_3 : AC := .seq ac_law07_ExtOrder_2 .ret
def ac_law07_ExtOrder_4 : AC := .cond (.t 17) ac_law07_ExtOrder_3 .skip
def ac_law07_ExtOrder_5 : AC := .seq ac_law07_ExtOrder_1 ac_law07_ExtOrder_4
def l_law07_ExtOrder_6 : List AOp := [⟨(some 20), .mv (.t 0), none, none, [], none⟩,
  ⟨(some 21), .iarr 1 2 (.t 4) (.k (.int .i64 0)), none, none, [], none⟩,
  ⟨(some 22), .load none (.t 21), none, none, [], none⟩,
  ⟨(some 23), .iarr 1 2 (.t 4) (.k (.int .i64 1)), none, none, [], none⟩,
  ⟨(some 24), .load none (.t 23), none, none, [], none⟩,
  ⟨(some 25), .call false 16 [(.t 20), (.t 22), (.t 24)], none, none, [], none⟩,
  ⟨(some 19), .mv (.t 25), none, none, [], none⟩,
  ⟨(some 26), .ext 0 (.t 19), none, none, [], none⟩,
  ⟨(some 27), .ext 1 (.t 19), none, none, [], none⟩,
  ⟨(some 7), .mv (.t 26), none, none, [], none⟩,
  ⟨(some 8), .mv (.t 27), none, none, [], none⟩]
def ac_law07_ExtOrder_6 : AC := .reg l_law07_ExtOrder_6
def l_law07_ExtOrder_7 : List AOp := [⟨(some 29), .mv (.t 0), none, none, [], none⟩,
  ⟨(some 30), .iarr 1 2 (.t 5) (.k (.int .i64 0)), none, none, [], none⟩,
  ⟨(some 31), .load none (.t 30), none, none, [], none⟩,
  ⟨(some 32), .iarr 1 2 (.t 5) (.k (.int .i64 1)), none, none, [], none⟩,
  ⟨(some 33), .load none (.t 32), none, none, [], none⟩,
  ⟨(some 34), .call false 16 [(.t 29), (.t 31), (.t 33)], none, none, [], none⟩,
  ⟨(some 28), .mv (.t 34), none, none, [], none⟩,
  ⟨(some 35), .ext 0 (.t 28), none, none, [], none⟩,
  ⟨(some 36), .ext 1 (.t 28), none, none, [], none⟩,
  ⟨(some 9), .mv (.t 35), none, none, [], none⟩,
  ⟨(some 10), .mv (.t 36), none, none, [], none⟩]
def ac_law07_ExtOrder_7 : AC := .reg l_law07_ExtOrder_7
def l_law07_ExtOrder_8 : List AOp := [⟨(some 37), .mv (.t 8), none, none, [], none⟩,
  ⟨(some 38), .bin .neq (.t 37) (.k (.int .i64 0)), none, none, [], none⟩,
  ⟨(some 39), .mv (.t 38), none, none, [], none⟩,
  ⟨(some 40), .mv (.t 10), (some (39, false)), none, [], none⟩,
  ⟨(some 41), .bin .neq (.t 40) (.k (.int .i64 0)), (some (39, false)), none, [], none⟩,
  ⟨(some 42), .pick (.t 39) (.k (.bool true)) (.t 41), none, none, [], none⟩]
def ac_law07_ExtOrder_8 : AC := .reg l_law07_ExtOrder_8
def l_law07_ExtOrder_9 : List AOp := [⟨(some 43), .call false 14 [], none, none, [], none⟩,
  ⟨(some 6), .mv (.t 43), none, none, [], none⟩]
def ac_law07_ExtOrder_9 : AC := .reg l_law07_ExtOrder_9
def ac_law07_ExtOrder_10 : AC := .seq ac_law07_ExtOrder_9 .ret
def ac_law07_ExtOrder_11 : AC := .cond (.t 42) ac_law07_ExtOrder_10 .skip
def ac_law07_ExtOrder_12 : AC := .seq ac_law07_ExtOrder_8 ac_law07_ExtOrder_11
def l_law07_ExtOrder_13 : List AOp := [⟨(some 45), .mv (.t 7), none, none, [], none⟩,
  ⟨(some 46), .iarr 1 2 (.t 5) (.k (.int .i64 0)), none, none, [], none⟩,
  ⟨(some 47), .load none (.t 46), none, none, [], none⟩,
  ⟨(some 48), .iarr 1 2 (.t 5) (.k (.int .i64 1)), none, none, [], none⟩,
  ⟨(some 49), .load none (.t 48), none, none, [], none⟩,
  ⟨(some 50), .call false 16 [(.t 45), (.t 47), (.t 49)], none, none, [], none⟩,
  ⟨(some 44), .mv (.t 50), none, none, [], none⟩,
  ⟨(some 51), .ext 0 (.t 44), none, none, [], none⟩,
  ⟨(some 52), .ext 1 (.t 44), none, none, [], none⟩,
  ⟨(some 11), .mv (.t 51), none, none, [], none⟩,
  ⟨(some 12), .mv (.t 52), none, none, [], none⟩]
def ac_law07_ExtOrder_13 : AC := .reg l_law07_ExtOrder_13
def l_law07_ExtOrder_14 : List AOp := [⟨(some 54), .mv (.t 9), none, none, [], none⟩,
  ⟨(some 55), .iarr 1 2 (.t 4) (.k (.int .i64 0)), none, none, [], none⟩,
  ⟨(some 56), .load none (.t 55), none, none, [], none⟩,
  ⟨(some 57), .iarr 1 2 (.t 4) (.k (.int .i64 1)), none, none, [], none⟩,
  ⟨(some 58), .load none (.t 57), none, none, [], none⟩,
  ⟨(some 59), .call false 16 [(.t 54), (.t 56), (.t 58)], none, none, [], none⟩,
  ⟨(some 53), .mv (.t 59), none, none, [], none⟩,
  ⟨(some 60), .ext 0 (.t 53), none, none, [], none⟩,
  ⟨(some 61), .ext 1 (.t 53), none, none, [], none⟩,
  ⟨(some 13), .mv (.t 60), none, none, [], none⟩,
  ⟨(some 14), .mv (.t 61), none, none, [], none⟩]
def ac_law07_ExtOrder_14 : AC := .reg l_law07_ExtOrder_14
def l_law07_ExtOrder_15 : List AOp := [⟨(some 62), .call false 14 [], none, none, [], none⟩,
  ⟨(some 63), .mv (.t 62), none, none, [], none⟩,
  ⟨(some 64), .mv (.t 12), (some (63, true)), none, [], none⟩,
  ⟨(some 65), .bin .eql (.t 64) (.k (.int .i64 0)), (some (63, true)), none, [], none⟩,
  ⟨(some 66), .pick (.t 63) (.t 65) (.k (.bool false)), none, none, [], none⟩,
  ⟨(some 67), .mv (.t 66), none, none, [], none⟩,
  ⟨(some 68), .mv (.t 14), (some (67, true)), none, [], none⟩,
  ⟨(some 69), .bin .eql (.t 68) (.k (.int .i64 0)), (some (67, true)), none, [], none⟩,
  ⟨(some 70), .pick (.t 67) (.t 69) (.k (.bool false)), none, none, [], none⟩,
  ⟨(some 71), .mv (.t 70), none, none, [], none⟩,
  ⟨(some 72), .mv (.t 11), (some (71, true)), none, [], none⟩,
  ⟨(some 73), .mv (.t 13), (some (71, true)), none, [], none⟩,
  ⟨(some 74), .call false 22 [(.t 72), (.t 73)], (some (71, true)), none, [], none⟩,
  ⟨(some 75), .pick (.t 71) (.t 74) (.k (.bool false)), none, none, [], none⟩,
  ⟨(some 6), .mv (.t 75), none, none, [], none⟩]
def ac_law07_ExtOrder_15 : AC := .reg l_law07_ExtOrder_15
def ac_law07_ExtOrder_16 : AC := .seq ac_law07_ExtOrder_15 .ret
def ac_law07_ExtOrder_17 : AC := .seq ac_law07_ExtOrder_14 ac_law07_ExtOrder_16
def ac_law07_ExtOrder_18 : AC := .seq ac_law07_ExtOrder_13 ac_law07_ExtOrder_17
def ac_law07_ExtOrder_19 : AC := .seq ac_law07_ExtOrder_12 ac_law07_ExtOrder_18
def ac_law07_ExtOrder_20 : AC := .seq ac_law07_ExtOrder_7 ac_law07_ExtOrder_19
def ac_law07_ExtOrder_21 : AC := .seq ac_law07_ExtOrder_6 ac_law07_ExtOrder_20
def ac_law07_ExtOrder_22 : AC := .seq ac_law07_ExtOrder_5 ac_law07_ExtOrder_21
def ac_law07_ExtOrder_23 : AC := .seq ac_law07_ExtOrder_0 ac_law07_ExtOrder_22
def ac_law07_ExtOrder : AC := ac_law07_ExtOrder_23
theorem comp_law07_ExtOrder : compF Try.prog [] (drawR Try.prog [] Try.f6.ntmps) [] 3 Try.f6 = some (ac_law07_ExtOrder, [.t 6]) := by kernel_rfl
def U_law07_ExtOrder := (And.intro (And.intro (And.intro (And.intro (And.intro (And.intro @ac_law07_ExtOrder.eq_1 (@mR _ _ ac_law07_ExtOrder_0.eq_1)) (@mR _ _ ac_law07_ExtOrder_1.eq_1)) (And.intro (@mR _ _ ac_law07_ExtOrder_2.eq_1) (@mU _ _ ac_law07_ExtOrder_3.eq_1))) (And.intro (And.intro (@mU _ _ ac_law07_ExtOrder_4.eq_1) (@mU _ _ ac_law07_ExtOrder_5.eq_1)) (And.intro (@mR _ _ ac_law07_ExtOrder_6.eq_1) (@mR _ _ ac_law07_ExtOrder_7.eq_1)))) (And.intro (And.intro (And.intro (And.intro (@mR _ _ ac_law07_ExtOrder_8.eq_1) (@mR _ _ ac_law07_ExtOrder_9.eq_1)) (@mU _ _ ac_law07_ExtOrder_10.eq_1)) (And.intro (@mU _ _ ac_law07_ExtOrder_11.eq_1) (@mU _ _ ac_law07_ExtOrder_12.eq_1))) (And.intro (And.intro (@mR _ _ ac_law07_ExtOrder_13.eq_1) (@mR _ _ ac_law07_ExtOrder_14.eq_1)) (And.intro (@mR _ _ ac_law07_ExtOrder_15.eq_1) (@mU _ _ ac_law07_ExtOrder_16.eq_1))))) (And.intro (And.intro (And.intro (And.intro (And.intro (@mU _ _ ac_law07_ExtOrder_17.eq_1) (@mU _ _ ac_law07_ExtOrder_18.eq_1)) (@mU _ _ ac_law07_ExtOrder_19.eq_1)) (And.intro (@mU _ _ ac_law07_ExtOrder_20.eq_1) (@mU _ _ ac_law07_ExtOrder_21.eq_1))) (And.intro (And.intro (@mU _ _ ac_law07_ExtOrder_22.eq_1) (@mU _ _ ac_law07_ExtOrder_23.eq_1)) (And.intro @l_law07_ExtOrder_0.eq_1 @l_law07_ExtOrder_1.eq_1))) (And.intro (And.intro (And.intro @l_law07_ExtOrder_2.eq_1 @l_law07_ExtOrder_6.eq_1) (And.intro @l_law07_ExtOrder_7.eq_1 @l_law07_ExtOrder_8.eq_1)) (And.intro (And.intro @l_law07_ExtOrder_9.eq_1 @l_law07_ExtOrder_13.eq_1) (And.intro @l_law07_ExtOrder_14.eq_1 @l_law07_ExtOrder_15.eq_1)))))

/- scoria/scorialaw07.ExtClips -/
def l_law07_ExtClips_0 : List AOp := [⟨(some 6), .mv (.k (.bool false)), none, none, [], none⟩]
def ac_law07_ExtClips_0 : AC := .reg l_law07_ExtClips_0
def l_law07_ExtClips_1 : List AOp := [⟨(some 10), .mv (.t 0), none, none, [], none⟩,
  ⟨(some 11), .call false 13 [(.t 10)], none, none, [], none⟩,
  ⟨(some 12), .un .not (.t 11), none, none, [], none⟩]
def ac_law07_ExtClips_1 : AC := .reg l_law07_ExtClips_1
def l_law07_ExtClips_2 : List AOp := [⟨(some 13), .call false 14 [], none, none, [], none⟩,
  ⟨(some 6), .mv (.t 13), none, none, [], none⟩]
def ac_law07_ExtClips_2 : AC := .reg l_law07_ExtClips_2
def ac_law07_ExtClips_3 : AC := .seq ac_law07_ExtClips_2 .ret
def ac_law07_ExtClips_4 : AC := .cond (.t 12) ac_law07_ExtClips_3 .skip
def ac_law07_ExtClips_5 : AC := .seq ac_law07_ExtClips_1 ac_law07_ExtClips_4
def l_law07_ExtClips_6 : List AOp := [⟨(some 14), .mv (.t 0), none, none, [], none⟩,
  ⟨(some 15), .call false 15 [(.t 14)], none, none, [], none⟩,
  ⟨(some 7), .mv (.t 15), none, none, [], none⟩]
def ac_law07_ExtClips_6 : AC := .reg l_law07_ExtClips_6
def l_law07_ExtClips_7 : List AOp := [⟨(some 17), .mv (.t 0), none, none, [], none⟩,
  ⟨(some 18), .mv (.t 1), none, none, [], none⟩,
  ⟨(some 19), .mv (.t 2), none, none, [], none⟩,
  ⟨(some 20), .call false 23 [(.t 17), (.t 18), (.t 19)], none, none, [], none⟩,
  ⟨(some 16), .mv (.t 20), none, none, [], none⟩,
  ⟨(some 21), .ext 0 (.t 16), none, none, [], none⟩,
  ⟨(some 22), .ext 1 (.t 16), none, none, [], none⟩,
  ⟨(some 8), .mv (.t 21), none, none, [], none⟩,
  ⟨(some 9), .mv (.t 22), none, none, [], none⟩]
def ac_law07_ExtClips_7 : AC := .reg l_law07_ExtClips_7
def l_law07_ExtClips_8 : List AOp := [⟨(some 23), .mv (.t 7), none, none, [], none⟩,
  ⟨(some 24), .call false 17 [(.t 23)], none, none, [], none⟩,
  ⟨(some 25), .un .not (.t 24), none, none, [], none⟩,
  ⟨(some 26), .mv (.t 25), none, none, [], none⟩,
  ⟨(some 27), .mv (.t 1), (some (26, false)), none, [], none⟩,
  ⟨(some 28), .mv (.t 2), (some (26, false)), none, [], none⟩,
  ⟨(some 29), .call false 18 [(.t 27), (.t 28)], (some (26, false)), none, [], none⟩,
  ⟨(some 30), .un .not (.t 29), (some (26, false)), none, [], none⟩,
  ⟨(some 31), .pick (.t 26) (.k (.bool true)) (.t 30), none, none, [], none⟩]
def ac_law07_ExtClips_8 : AC := .reg l_law07_ExtClips_8
def l_law07_ExtClips_9 : List AOp := [⟨(some 32), .call false 14 [], none, none, [], none⟩,
  ⟨(some 33), .mv (.t 32), none, none, [], none⟩,
  ⟨(some 34), .mv (.t 9), (some (33, true)), none, [], none⟩,
  ⟨(some 35), .bin .eql (.t 34) (.k (.int .i64 1)), (some (33, true)), none, [], none⟩,
  ⟨(some 36), .pick (.t 33) (.t 35) (.k (.bool false)), none, none, [], none⟩,
  ⟨(some 37), .mv (.t 36), none, none, [], none⟩,
  ⟨(some 38), .mv (.t 8), (some (37, true)), none, [], none⟩,
  ⟨(some 39), .len (.t 38), (some (37, true)), none, [], none⟩,
  ⟨(some 40), .bin .eql (.t 39) (.k (.int .i64 0)), (some (37, true)), none, [], none⟩,
  ⟨(some 41), .pick (.t 37) (.t 40) (.k (.bool false)), none, none, [], none⟩,
  ⟨(some 6), .mv (.t 41), none, none, [], none⟩]
def ac_law07_ExtClips_9 : AC := .reg l_law07_ExtClips_9
def ac_law07_ExtClips_10 : AC := .seq ac_law07_ExtClips_9 .ret
def ac_law07_ExtClips_11 : AC := .cond (.t 31) ac_law07_ExtClips_10 .skip
def ac_law07_ExtClips_12 : AC := .seq ac_law07_ExtClips_8 ac_law07_ExtClips_11
def l_law07_ExtClips_13 : List AOp := [⟨(some 42), .call false 14 [], none, none, [], none⟩,
  ⟨(some 43), .mv (.t 42), none, none, [], none⟩,
  ⟨(some 44), .mv (.t 9), (some (43, true)), none, [], none⟩,
  ⟨(some 45), .bin .eql (.t 44) (.k (.int .i64 0)), (some (43, true)), none, [], none⟩,
  ⟨(some 46), .pick (.t 43) (.t 45) (.k (.bool false)), none, none, [], none⟩,
  ⟨(some 47), .mv (.t 46), none, none, [], none⟩,
  ⟨(some 48), .mv (.t 8), (some (47, true)), none, [], none⟩,
  ⟨(some 49), .mv (.t 0), (some (47, true)), none, [], none⟩,
  ⟨(some 50), .mv (.t 1), (some (47, true)), none, [], none⟩,
  ⟨(some 51), .mv (.t 2), (some (47, true)), none, [], none⟩,
  ⟨(some 52), .mv (.t 7), (some (47, true)), none, [], none⟩,
  ⟨(some 53), .call false 19 [(.t 48), (.t 49), (.t 50), (.t 51), (.t 52), (.k (.slc []))], (some (47, true)), none, [], none⟩,
  ⟨(some 54), .pick (.t 47) (.t 53) (.k (.bool false)), none, none, [], none⟩,
  ⟨(some 6), .mv (.t 54), none, none, [], none⟩]
def ac_law07_ExtClips_13 : AC := .reg l_law07_ExtClips_13
def ac_law07_ExtClips_14 : AC := .seq ac_law07_ExtClips_13 .ret
def ac_law07_ExtClips_15 : AC := .seq ac_law07_ExtClips_12 ac_law07_ExtClips_14
def ac_law07_ExtClips_16 : AC := .seq ac_law07_ExtClips_7 ac_law07_ExtClips_15
def ac_law07_ExtClips_17 : AC := .seq ac_law07_ExtClips_6 ac_law07_ExtClips_16
def ac_law07_ExtClips_18 : AC := .seq ac_law07_ExtClips_5 ac_law07_ExtClips_17
def ac_law07_ExtClips_19 : AC := .seq ac_law07_ExtClips_0 ac_law07_ExtClips_18
def ac_law07_ExtClips : AC := ac_law07_ExtClips_19
theorem comp_law07_ExtClips : compF Try.prog [] (drawR Try.prog [] Try.f7.ntmps) [] 3 Try.f7 = some (ac_law07_ExtClips, [.t 6]) := by kernel_rfl
def U_law07_ExtClips := (And.intro (And.intro (And.intro (And.intro (And.intro @ac_law07_ExtClips.eq_1 (@mR _ _ ac_law07_ExtClips_0.eq_1)) (And.intro (@mR _ _ ac_law07_ExtClips_1.eq_1) (@mR _ _ ac_law07_ExtClips_2.eq_1))) (And.intro (And.intro (@mU _ _ ac_law07_ExtClips_3.eq_1) (@mU _ _ ac_law07_ExtClips_4.eq_1)) (And.intro (@mU _ _ ac_law07_ExtClips_5.eq_1) (@mR _ _ ac_law07_ExtClips_6.eq_1)))) (And.intro (And.intro (And.intro (@mR _ _ ac_law07_ExtClips_7.eq_1) (@mR _ _ ac_law07_ExtClips_8.eq_1)) (And.intro (@mR _ _ ac_law07_ExtClips_9.eq_1) (@mU _ _ ac_law07_ExtClips_10.eq_1))) (And.intro (And.intro (@mU _ _ ac_law07_ExtClips_11.eq_1) (@mU _ _ ac_law07_ExtClips_12.eq_1)) (@mR _ _ ac_law07_ExtClips_13.eq_1)))) (And.intro (And.intro (And.intro (And.intro (@mU _ _ ac_law07_ExtClips_14.eq_1) (@mU _ _ ac_law07_ExtClips_15.eq_1)) (And.intro (@mU _ _ ac_law07_ExtClips_16.eq_1) (@mU _ _ ac_law07_ExtClips_17.eq_1))) (And.intro (And.intro (@mU _ _ ac_law07_ExtClips_18.eq_1) (@mU _ _ ac_law07_ExtClips_19.eq_1)) @l_law07_ExtClips_0.eq_1)) (And.intro (And.intro (And.intro @l_law07_ExtClips_1.eq_1 @l_law07_ExtClips_2.eq_1) (And.intro @l_law07_ExtClips_6.eq_1 @l_law07_ExtClips_7.eq_1)) (And.intro (And.intro @l_law07_ExtClips_8.eq_1 @l_law07_ExtClips_9.eq_1) @l_law07_ExtClips_13.eq_1))))

/- scoria/scorialaw07.ExtWhole -/
def l_law07_ExtWhole_0 : List AOp := [⟨(some 6), .mv (.k (.bool false)), none, none, [], none⟩]
def ac_law07_ExtWhole_0 : AC := .reg l_law07_ExtWhole_0
def l_law07_ExtWhole_1 : List AOp := [⟨(some 12), .mv (.t 0), none, none, [], none⟩,
  ⟨(some 13), .call false 13 [(.t 12)], none, none, [], none⟩,
  ⟨(some 14), .un .not (.t 13), none, none, [], none⟩]
def ac_law07_ExtWhole_1 : AC := .reg l_law07_ExtWhole_1
def l_law07_ExtWhole_2 : List AOp := [⟨(some 15), .call false 14 [], none, none, [], none⟩,
  ⟨(some 6), .mv (.t 15), none, none, [], none⟩]
def ac_law07_ExtWhole_2 : AC := .reg l_law07_ExtWhole_2
def ac_law07_ExtWhole_3 : AC := .seq ac_law07_ExtWhole_2 .ret
def ac_law07_ExtWhole_4 : AC := .cond (.t 14) ac_law07_ExtWhole_3 .skip
def ac_law07_ExtWhole_5 : AC := .seq ac_law07_ExtWhole_1 ac_law07_ExtWhole_4
def l_law07_ExtWhole_6 : List AOp := [⟨(some 17), .mv (.t 0), none, none, [], none⟩,
  ⟨(some 18), .mv (.t 1), none, none, [], none⟩,
  ⟨(some 19), .mv (.t 2), none, none, [], none⟩,
  ⟨(some 20), .call false 23 [(.t 17), (.t 18), (.t 19)], none, none, [], none⟩,
  ⟨(some 16), .mv (.t 20), none, none, [], none⟩,
  ⟨(some 21), .ext 0 (.t 16), none, none, [], none⟩,
  ⟨(some 22), .ext 1 (.t 16), none, none, [], none⟩,
  ⟨(some 7), .mv (.t 21), none, none, [], none⟩,
  ⟨(some 8), .mv (.t 22), none, none, [], none⟩]
def ac_law07_ExtWhole_6 : AC := .reg l_law07_ExtWhole_6
def l_law07_ExtWhole_7 : List AOp := [⟨(some 24), .mv (.t 0), none, none, [], none⟩,
  ⟨(some 25), .mv (.t 1), none, none, [], none⟩,
  ⟨(some 26), .mv (.t 2), none, none, [], none⟩,
  ⟨(some 27), .call false 16 [(.t 24), (.t 25), (.t 26)], none, none, [], none⟩,
  ⟨(some 23), .mv (.t 27), none, none, [], none⟩,
  ⟨(some 28), .ext 0 (.t 23), none, none, [], none⟩,
  ⟨(some 29), .ext 1 (.t 23), none, none, [], none⟩,
  ⟨(some 9), .mv (.t 28), none, none, [], none⟩,
  ⟨(some 10), .mv (.t 29), none, none, [], none⟩]
def ac_law07_ExtWhole_7 : AC := .reg l_law07_ExtWhole_7
def l_law07_ExtWhole_8 : List AOp := [⟨(some 30), .mv (.t 8), none, none, [], none⟩,
  ⟨(some 31), .bin .neq (.t 30) (.k (.int .i64 0)), none, none, [], none⟩,
  ⟨(some 32), .mv (.t 31), none, none, [], none⟩,
  ⟨(some 33), .mv (.t 10), (some (32, false)), none, [], none⟩,
  ⟨(some 34), .bin .neq (.t 33) (.k (.int .i64 0)), (some (32, false)), none, [], none⟩,
  ⟨(some 35), .pick (.t 32) (.k (.bool true)) (.t 34), none, none, [], none⟩]
def ac_law07_ExtWhole_8 : AC := .reg l_law07_ExtWhole_8
def l_law07_ExtWhole_9 : List AOp := [⟨(some 36), .call false 14 [], none, none, [], none⟩,
  ⟨(some 37), .mv (.t 36), none, none, [], none⟩,
  ⟨(some 38), .mv (.t 8), (some (37, true)), none, [], none⟩,
  ⟨(some 39), .mv (.t 10), (some (37, true)), none, [], none⟩,
  ⟨(some 40), .bin .eql (.t 38) (.t 39), (some (37, true)), none, [], none⟩,
  ⟨(some 41), .pick (.t 37) (.t 40) (.k (.bool false)), none, none, [], none⟩,
  ⟨(some 6), .mv (.t 41), none, none, [], none⟩]
def ac_law07_ExtWhole_9 : AC := .reg l_law07_ExtWhole_9
def ac_law07_ExtWhole_10 : AC := .seq ac_law07_ExtWhole_9 .ret
def ac_law07_ExtWhole_11 : AC := .cond (.t 35) ac_law07_ExtWhole_10 .skip
def ac_law07_ExtWhole_12 : AC := .seq ac_law07_ExtWhole_8 ac_law07_ExtWhole_11
def l_law07_ExtWhole_13 : List AOp := [⟨(some 11), .mv (.k (.int .i64 0)), none, none, [], none⟩]
def ac_law07_ExtWhole_13 : AC := .reg l_law07_ExtWhole_13
def l_law07_ExtWhole_14 : List AOp := [⟨(some 42), .mv (.t 11), none, none, [], none⟩,
  ⟨(some 43), .mv (.t 7), none, none, [], none⟩,
  ⟨(some 44), .len (.t 43), none, none, [], none⟩,
  ⟨(some 45), .bin .lss (.t 42) (.t 44), none, none, [], none⟩,
  ⟨(some 46), .mv (.t 45), none, none, [], none⟩,
  ⟨(some 47), .mv (.t 11), (some (46, true)), none, [], none⟩,
  ⟨(some 48), .bin .lss (.t 47) (.k (.int .i64 80)), (some (46, true)), none, [], none⟩,
  ⟨(some 49), .pick (.t 46) (.t 48) (.k (.bool false)), none, none, [], none⟩]
def ac_law07_ExtWhole_14 : AC := .reg l_law07_ExtWhole_14
def ac_law07_ExtWhole_15 : AC := .cond (.t 49) .skip (.exit 0)
def ac_law07_ExtWhole_16 : AC := .seq ac_law07_ExtWhole_14 ac_law07_ExtWhole_15
def l_law07_ExtWhole_17 : List AOp := [⟨(some 53), .mv (.t 9), none, none, [], none⟩,
  ⟨(some 54), .mv (.t 7), none, none, [], none⟩,
  ⟨(some 55), .mv (.t 11), none, none, [], none⟩,
  ⟨(some 56), .isl 4 (.t 54) (.t 55), none, none, [], none⟩,
  ⟨(some 57), .load (some 4) (.t 56), none, none, [], none⟩,
  ⟨(some 58), .call false 20 [(.t 53), (.t 57)], none, none, [], none⟩,
  ⟨(some 52), .mv (.t 58), none, none, [], none⟩,
  ⟨(some 59), .ext 0 (.t 52), none, none, [], none⟩,
  ⟨(some 60), .ext 1 (.t 52), none, none, [], none⟩,
  ⟨(some 9), .mv (.t 59), none, none, [], none⟩,
  ⟨(some 10), .mv (.t 60), none, none, [], none⟩]
def ac_law07_ExtWhole_17 : AC := .reg l_law07_ExtWhole_17
def l_law07_ExtWhole_18 : List AOp := [⟨(some 61), .mv (.t 10), none, none, [], none⟩,
  ⟨(some 62), .bin .neq (.t 61) (.k (.int .i64 0)), none, none, [], none⟩]
def ac_law07_ExtWhole_18 : AC := .reg l_law07_ExtWhole_18
def l_law07_ExtWhole_19 : List AOp := [⟨(some 6), .mv (.k (.bool false)), none, none, [], none⟩]
def ac_law07_ExtWhole_19 : AC := .reg l_law07_ExtWhole_19
def ac_law07_ExtWhole_20 : AC := .seq ac_law07_ExtWhole_19 .ret
def ac_law07_ExtWhole_21 : AC := .cond (.t 62) ac_law07_ExtWhole_20 .skip
def ac_law07_ExtWhole_22 : AC := .seq ac_law07_ExtWhole_18 ac_law07_ExtWhole_21
def ac_law07_ExtWhole_23 : AC := .seq ac_law07_ExtWhole_17 ac_law07_ExtWhole_22
def ac_law07_ExtWhole_24 : AC := .block 1 ac_law07_ExtWhole_23
def l_law07_ExtWhole_25 : List AOp := [⟨(some 50), .mv (.t 11), none, none, [], none⟩,
  ⟨(some 51), .bin .add (.t 50) (.k (.int .i64 1)), none, none, [], none⟩,
  ⟨(some 11), .mv (.t 51), none, none, [], none⟩]
def ac_law07_ExtWhole_25 : AC := .reg l_law07_ExtWhole_25
def ac_law07_ExtWhole_26 : AC := .seq ac_law07_ExtWhole_24 ac_law07_ExtWhole_25
def ac_law07_ExtWhole_27 : AC := .seq ac_law07_ExtWhole_16 ac_law07_ExtWhole_26
def ac_law07_ExtWhole_28 : AC := .loop [0, 7, 9, 11] 0 ac_law07_ExtWhole_27
def ac_law07_ExtWhole_29 : AC := .block 0 ac_law07_ExtWhole_28
def ac_law07_ExtWhole_30 : AC := .seq ac_law07_ExtWhole_13 ac_law07_ExtWhole_29
def l_law07_ExtWhole_31 : List AOp := [⟨(some 63), .call false 14 [], none, none, [], none⟩,
  ⟨(some 64), .mv (.t 63), none, none, [], none⟩,
  ⟨(some 65), .mv (.t 9), (some (64, true)), none, [], none⟩,
  ⟨(some 66), .mv (.t 0), (some (64, true)), none, [], none⟩,
  ⟨(some 67), .call false 22 [(.t 65), (.t 66)], (some (64, true)), none, [], none⟩,
  ⟨(some 68), .pick (.t 64) (.t 67) (.k (.bool false)), none, none, [], none⟩,
  ⟨(some 6), .mv (.t 68), none, none, [], none⟩]
def ac_law07_ExtWhole_31 : AC := .reg l_law07_ExtWhole_31
def ac_law07_ExtWhole_32 : AC := .seq ac_law07_ExtWhole_31 .ret
def ac_law07_ExtWhole_33 : AC := .seq ac_law07_ExtWhole_30 ac_law07_ExtWhole_32
def ac_law07_ExtWhole_34 : AC := .seq ac_law07_ExtWhole_12 ac_law07_ExtWhole_33
def ac_law07_ExtWhole_35 : AC := .seq ac_law07_ExtWhole_7 ac_law07_ExtWhole_34
def ac_law07_ExtWhole_36 : AC := .seq ac_law07_ExtWhole_6 ac_law07_ExtWhole_35
def ac_law07_ExtWhole_37 : AC := .seq ac_law07_ExtWhole_5 ac_law07_ExtWhole_36
def ac_law07_ExtWhole_38 : AC := .seq ac_law07_ExtWhole_0 ac_law07_ExtWhole_37
def ac_law07_ExtWhole : AC := ac_law07_ExtWhole_38
theorem comp_law07_ExtWhole : compF Try.prog [] (drawR Try.prog [] Try.f8.ntmps) [([0, 7, 9, 11], 0)] 3 Try.f8 = some (ac_law07_ExtWhole, [.t 6]) := by kernel_rfl
def U_law07_ExtWhole := (And.intro (And.intro (And.intro (And.intro (And.intro (And.intro @ac_law07_ExtWhole.eq_1 (@mR _ _ ac_law07_ExtWhole_0.eq_1)) (And.intro (@mR _ _ ac_law07_ExtWhole_1.eq_1) (@mR _ _ ac_law07_ExtWhole_2.eq_1))) (And.intro (And.intro (@mU _ _ ac_law07_ExtWhole_3.eq_1) (@mU _ _ ac_law07_ExtWhole_4.eq_1)) (@mU _ _ ac_law07_ExtWhole_5.eq_1))) (And.intro (And.intro (And.intro (@mR _ _ ac_law07_ExtWhole_6.eq_1) (@mR _ _ ac_law07_ExtWhole_7.eq_1)) (And.intro (@mR _ _ ac_law07_ExtWhole_8.eq_1) (@mR _ _ ac_law07_ExtWhole_9.eq_1))) (And.intro (And.intro (@mU _ _ ac_law07_ExtWhole_10.eq_1) (@mU _ _ ac_law07_ExtWhole_11.eq_1)) (@mU _ _ ac_law07_ExtWhole_12.eq_1)))) (And.intro (And.intro (And.intro (And.intro (@mR _ _ ac_law07_ExtWhole_13.eq_1) (@mR _ _ ac_law07_ExtWhole_14.eq_1)) (And.intro (@mU _ _ ac_law07_ExtWhole_15.eq_1) (@mU _ _ ac_law07_ExtWhole_16.eq_1))) (And.intro (And.intro (@mR _ _ ac_law07_ExtWhole_17.eq_1) (@mR _ _ ac_law07_ExtWhole_18.eq_1)) (@mR _ _ ac_law07_ExtWhole_19.eq_1))) (And.intro (And.intro (And.intro (@mU _ _ ac_law07_ExtWhole_20.eq_1) (@mU _ _ ac_law07_ExtWhole_21.eq_1)) (@mU _ _ ac_law07_ExtWhole_22.eq_1)) (And.intro (And.intro (@mU _ _ ac_law07_ExtWhole_23.eq_1) (@mU _ _ ac_law07_ExtWhole_24.eq_1)) (@mR _ _ ac_law07_ExtWhole_25.eq_1))))) (And.intro (And.intro (And.intro (And.intro (And.intro (@mU _ _ ac_law07_ExtWhole_26.eq_1) (@mU _ _ ac_law07_ExtWhole_27.eq_1)) (And.intro (@mU _ _ ac_law07_ExtWhole_28.eq_1) (@mU _ _ ac_law07_ExtWhole_29.eq_1))) (And.intro (And.intro (@mU _ _ ac_law07_ExtWhole_30.eq_1) (@mR _ _ ac_law07_ExtWhole_31.eq_1)) (@mU _ _ ac_law07_ExtWhole_32.eq_1))) (And.intro (And.intro (And.intro (@mU _ _ ac_law07_ExtWhole_33.eq_1) (@mU _ _ ac_law07_ExtWhole_34.eq_1)) (And.intro (@mU _ _ ac_law07_ExtWhole_35.eq_1) (@mU _ _ ac_law07_ExtWhole_36.eq_1))) (And.intro (And.intro (@mU _ _ ac_law07_ExtWhole_37.eq_1) (@mU _ _ ac_law07_ExtWhole_38.eq_1)) @l_law07_ExtWhole_0.eq_1))) (And.intro (And.intro (And.intro (And.intro @l_law07_ExtWhole_1.eq_1 @l_law07_ExtWhole_2.eq_1) (And.intro @l_law07_ExtWhole_6.eq_1 @l_law07_ExtWhole_7.eq_1)) (And.intro (And.intro @l_law07_ExtWhole_8.eq_1 @l_law07_ExtWhole_9.eq_1) @l_law07_ExtWhole_13.eq_1)) (And.intro (And.intro (And.intro @l_law07_ExtWhole_14.eq_1 @l_law07_ExtWhole_17.eq_1) @l_law07_ExtWhole_18.eq_1) (And.intro (And.intro @l_law07_ExtWhole_19.eq_1 @l_law07_ExtWhole_25.eq_1) @l_law07_ExtWhole_31.eq_1)))))

/- scoria/scorialaw07.ExtChecks -/
def l_law07_ExtChecks_0 : List AOp := [⟨(some 4), .box (.t 1), none, none, [], none⟩,
  ⟨(some 5), .box (.t 2), none, none, [], none⟩,
  ⟨(some 6), .mv (.k (.bool false)), none, none, [], none⟩]
def ac_law07_ExtChecks_0 : AC := .reg l_law07_ExtChecks_0
def l_law07_ExtChecks_1 : List AOp := [⟨(some 11), .mv (.t 0), none, none, [], none⟩,
  ⟨(some 12), .call false 13 [(.t 11)], none, none, [], none⟩,
  ⟨(some 13), .un .not (.t 12), none, none, [], none⟩]
def ac_law07_ExtChecks_1 : AC := .reg l_law07_ExtChecks_1
def l_law07_ExtChecks_2 : List AOp := [⟨(some 14), .call false 14 [], none, none, [], none⟩,
  ⟨(some 6), .mv (.t 14), none, none, [], none⟩]
def ac_law07_ExtChecks_2 : AC := .reg l_law07_ExtChecks_2
def ac_law07_ExtChecks_3 : AC := .seq ac_law07_ExtChecks_2 .ret
def ac_law07_ExtChecks_4 : AC := .cond (.t 13) ac_law07_ExtChecks_3 .skip
def ac_law07_ExtChecks_5 : AC := .seq ac_law07_ExtChecks_1 ac_law07_ExtChecks_4
def l_law07_ExtChecks_6 : List AOp := [⟨(some 16), .load (some 4) (.t 4), none, none, [], none⟩,
  ⟨(some 17), .load (some 4) (.t 5), none, none, [], none⟩,
  ⟨(some 18), .call false 24 [(.t 16), (.t 17)], none, none, [], none⟩,
  ⟨(some 15), .mv (.t 18), none, none, [], none⟩,
  ⟨(some 19), .ext 0 (.t 15), none, none, [], none⟩,
  ⟨(some 20), .ext 1 (.t 15), none, none, [], none⟩,
  ⟨(some 7), .alloc [(.int .i64 0), (.int .i64 0), (.int .i64 0), (.int .i64 0)], none, none, [], none⟩,
  ⟨none, .store 4 (.t 7) (.t 19), none, none, [], none⟩,
  ⟨(some 8), .mv (.t 20), none, none, [], none⟩]
def ac_law07_ExtChecks_6 : AC := .reg l_law07_ExtChecks_6
def l_law07_ExtChecks_7 : List AOp := [⟨(some 22), .load (some 4) (.t 4), none, none, [], none⟩,
  ⟨(some 23), .load (some 4) (.t 5), none, none, [], none⟩,
  ⟨(some 24), .call false 25 [(.t 22), (.t 23)], none, none, [], none⟩,
  ⟨(some 21), .mv (.t 24), none, none, [], none⟩,
  ⟨(some 25), .ext 0 (.t 21), none, none, [], none⟩,
  ⟨(some 26), .ext 1 (.t 21), none, none, [], none⟩,
  ⟨(some 9), .alloc [(.int .i64 0), (.int .i64 0), (.int .i64 0), (.int .i64 0)], none, none, [], none⟩,
  ⟨none, .store 4 (.t 9) (.t 25), none, none, [], none⟩,
  ⟨(some 10), .mv (.t 26), none, none, [], none⟩]
def ac_law07_ExtChecks_7 : AC := .reg l_law07_ExtChecks_7
def l_law07_ExtChecks_8 : List AOp := [⟨(some 27), .call false 14 [], none, none, [], none⟩,
  ⟨(some 28), .mv (.t 27), none, none, [], none⟩,
  ⟨(some 29), .load (some 4) (.t 4), (some (28, true)), none, [], none⟩,
  ⟨(some 30), .call false 26 [(.t 29)], (some (28, true)), none, [], none⟩,
  ⟨(some 31), .load (some 4) (.t 4), (some (28, true)), none, [], none⟩,
  ⟨(some 32), .call false 21 [(.t 31)], (some (28, true)), none, [], none⟩,
  ⟨(some 33), .eqb false (.t 30) (.t 32), (some (28, true)), none, [], none⟩,
  ⟨(some 34), .pick (.t 28) (.t 33) (.k (.bool false)), none, none, [], none⟩,
  ⟨(some 35), .mv (.t 34), none, none, [], none⟩,
  ⟨(some 36), .mv (.t 0), (some (35, true)), none, [], none⟩,
  ⟨(some 37), .call false 27 [(.t 36)], (some (35, true)), none, [], none⟩,
  ⟨(some 38), .mv (.t 0), (some (35, true)), none, [], none⟩,
  ⟨(some 39), .call false 15 [(.t 38)], (some (35, true)), none, [], none⟩,
  ⟨(some 40), .call false 17 [(.t 39)], (some (35, true)), none, [], none⟩,
  ⟨(some 41), .eqb false (.t 37) (.t 40), (some (35, true)), none, [], none⟩,
  ⟨(some 42), .pick (.t 35) (.t 41) (.k (.bool false)), none, none, [], none⟩,
  ⟨(some 43), .mv (.t 42), none, none, [], none⟩,
  ⟨(some 44), .load (some 4) (.t 7), (some (43, true)), none, [], none⟩,
  ⟨(some 45), .load (some 4) (.t 9), (some (43, true)), none, [], none⟩,
  ⟨(some 46), .eqs false [.i, .i, .i, .i] (.t 44) (.t 45), (some (43, true)), none, [], none⟩,
  ⟨(some 47), .pick (.t 43) (.t 46) (.k (.bool false)), none, none, [], none⟩,
  ⟨(some 48), .mv (.t 47), none, none, [], none⟩,
  ⟨(some 49), .mv (.t 8), (some (48, true)), none, [], none⟩,
  ⟨(some 50), .mv (.t 10), (some (48, true)), none, [], none⟩,
  ⟨(some 51), .eqb false (.t 49) (.t 50), (some (48, true)), none, [], none⟩,
  ⟨(some 52), .pick (.t 48) (.t 51) (.k (.bool false)), none, none, [], none⟩,
  ⟨(some 6), .mv (.t 52), none, none, [], none⟩]
def ac_law07_ExtChecks_8 : AC := .dreg 0 l_law07_ExtChecks_8
def ac_law07_ExtChecks_9 : AC := .seq ac_law07_ExtChecks_8 .ret
def ac_law07_ExtChecks_10 : AC := .seq ac_law07_ExtChecks_7 ac_law07_ExtChecks_9
def ac_law07_ExtChecks_11 : AC := .seq ac_law07_ExtChecks_6 ac_law07_ExtChecks_10
def ac_law07_ExtChecks_12 : AC := .seq ac_law07_ExtChecks_5 ac_law07_ExtChecks_11
def ac_law07_ExtChecks_13 : AC := .seq ac_law07_ExtChecks_0 ac_law07_ExtChecks_12
def ac_law07_ExtChecks : AC := ac_law07_ExtChecks_13
theorem comp_law07_ExtChecks : compF Try.prog [] (drawR Try.prog [] Try.f9.ntmps) [] 3 Try.f9 = some (ac_law07_ExtChecks, [.t 6]) := by kernel_rfl
def U_law07_ExtChecks := (And.intro (And.intro (And.intro (And.intro (And.intro @ac_law07_ExtChecks.eq_1 (@mR _ _ ac_law07_ExtChecks_0.eq_1)) (@mR _ _ ac_law07_ExtChecks_1.eq_1)) (And.intro (And.intro (@mR _ _ ac_law07_ExtChecks_2.eq_1) (@mU _ _ ac_law07_ExtChecks_3.eq_1)) (@mU _ _ ac_law07_ExtChecks_4.eq_1))) (And.intro (And.intro (And.intro (@mU _ _ ac_law07_ExtChecks_5.eq_1) (@mR _ _ ac_law07_ExtChecks_6.eq_1)) (@mR _ _ ac_law07_ExtChecks_7.eq_1)) (And.intro (@mD _ _ _ ac_law07_ExtChecks_8.eq_1) (@mU _ _ ac_law07_ExtChecks_9.eq_1)))) (And.intro (And.intro (And.intro (And.intro (@mU _ _ ac_law07_ExtChecks_10.eq_1) (@mU _ _ ac_law07_ExtChecks_11.eq_1)) (@mU _ _ ac_law07_ExtChecks_12.eq_1)) (And.intro (@mU _ _ ac_law07_ExtChecks_13.eq_1) @l_law07_ExtChecks_0.eq_1)) (And.intro (And.intro (And.intro @l_law07_ExtChecks_1.eq_1 @l_law07_ExtChecks_2.eq_1) @l_law07_ExtChecks_6.eq_1) (And.intro @l_law07_ExtChecks_7.eq_1 @l_law07_ExtChecks_8.eq_1))))

/- scoria/scorialaw07.ExtFinds -/
def l_law07_ExtFinds_0 : List AOp := [⟨(some 4), .mv (.k (.bool false)), none, none, [], none⟩]
def ac_law07_ExtFinds_0 : AC := .reg l_law07_ExtFinds_0
def l_law07_ExtFinds_1 : List AOp := [⟨(some 6), .mv (.t 0), none, none, [], none⟩,
  ⟨(some 7), .call false 13 [(.t 6)], none, none, [], none⟩,
  ⟨(some 8), .un .not (.t 7), none, none, [], none⟩]
def ac_law07_ExtFinds_1 : AC := .reg l_law07_ExtFinds_1
def l_law07_ExtFinds_2 : List AOp := [⟨(some 9), .call false 14 [], none, none, [], none⟩,
  ⟨(some 4), .mv (.t 9), none, none, [], none⟩]
def ac_law07_ExtFinds_2 : AC := .reg l_law07_ExtFinds_2
def ac_law07_ExtFinds_3 : AC := .seq ac_law07_ExtFinds_2 .ret
def ac_law07_ExtFinds_4 : AC := .cond (.t 8) ac_law07_ExtFinds_3 .skip
def ac_law07_ExtFinds_5 : AC := .seq ac_law07_ExtFinds_1 ac_law07_ExtFinds_4
def l_law07_ExtFinds_6 : List AOp := [⟨(some 5), .mv (.k (.int .i64 0)), none, none, [], none⟩]
def ac_law07_ExtFinds_6 : AC := .reg l_law07_ExtFinds_6
def l_law07_ExtFinds_7 : List AOp := [⟨(some 10), .mv (.t 5), none, none, [], none⟩,
  ⟨(some 11), .mv (.t 0), none, none, [], none⟩,
  ⟨(some 12), .len (.t 11), none, none, [], none⟩,
  ⟨(some 13), .bin .lss (.t 10) (.t 12), none, none, [], none⟩]
def ac_law07_ExtFinds_7 : AC := .reg l_law07_ExtFinds_7
def ac_law07_ExtFinds_8 : AC := .cond (.t 13) .skip (.exit 0)
def ac_law07_ExtFinds_9 : AC := .seq ac_law07_ExtFinds_7 ac_law07_ExtFinds_8
def l_law07_ExtFinds_10 : List AOp := [⟨(some 16), .mv (.t 0), none, none, [], none⟩,
  ⟨(some 17), .mv (.t 5), none, none, [], none⟩,
  ⟨(some 18), .isl 4 (.t 16) (.t 17), none, none, [], none⟩,
  ⟨(some 19), .load (some 4) (.t 18), none, none, [], none⟩,
  ⟨(some 20), .call false 21 [(.t 19)], none, none, [], none⟩,
  ⟨(some 21), .un .not (.t 20), none, none, [], none⟩]
def ac_law07_ExtFinds_10 : AC := .reg l_law07_ExtFinds_10
def l_law07_ExtFinds_11 : List AOp := [⟨(some 22), .call false 14 [], none, none, [], none⟩,
  ⟨(some 4), .mv (.t 22), none, none, [], none⟩]
def ac_law07_ExtFinds_11 : AC := .reg l_law07_ExtFinds_11
def ac_law07_ExtFinds_12 : AC := .seq ac_law07_ExtFinds_11 .ret
def ac_law07_ExtFinds_13 : AC := .cond (.t 21) ac_law07_ExtFinds_12 .skip
def ac_law07_ExtFinds_14 : AC := .seq ac_law07_ExtFinds_10 ac_law07_ExtFinds_13
def ac_law07_ExtFinds_15 : AC := .block 1 ac_law07_ExtFinds_14
def l_law07_ExtFinds_16 : List AOp := [⟨(some 14), .mv (.t 5), none, none, [], none⟩,
  ⟨(some 15), .bin .add (.t 14) (.k (.int .i64 1)), none, none, [], none⟩,
  ⟨(some 5), .mv (.t 15), none, none, [], none⟩]
def ac_law07_ExtFinds_16 : AC := .reg l_law07_ExtFinds_16
def ac_law07_ExtFinds_17 : AC := .seq ac_law07_ExtFinds_15 ac_law07_ExtFinds_16
def ac_law07_ExtFinds_18 : AC := .seq ac_law07_ExtFinds_9 ac_law07_ExtFinds_17
def ac_law07_ExtFinds_19 : AC := .loop [0, 1, 5] 0 ac_law07_ExtFinds_18
def ac_law07_ExtFinds_20 : AC := .block 0 ac_law07_ExtFinds_19
def ac_law07_ExtFinds_21 : AC := .seq ac_law07_ExtFinds_6 ac_law07_ExtFinds_20
def l_law07_ExtFinds_22 : List AOp := [⟨(some 23), .call false 14 [], none, none, [], none⟩,
  ⟨(some 24), .mv (.t 23), none, none, [], none⟩,
  ⟨(some 25), .mv (.t 0), (some (24, true)), none, [], none⟩,
  ⟨(some 26), .mv (.t 1), (some (24, true)), none, [], none⟩,
  ⟨(some 27), .call false 28 [(.t 25), (.t 26)], (some (24, true)), none, [], none⟩,
  ⟨(some 28), .mv (.t 0), (some (24, true)), none, [], none⟩,
  ⟨(some 29), .call false 15 [(.t 28)], (some (24, true)), none, [], none⟩,
  ⟨(some 30), .mv (.t 1), (some (24, true)), none, [], none⟩,
  ⟨(some 31), .call false 29 [(.t 29), (.t 30)], (some (24, true)), none, [], none⟩,
  ⟨(some 32), .eqs false [.i, .i] (.t 27) (.t 31), (some (24, true)), none, [], none⟩,
  ⟨(some 33), .pick (.t 24) (.t 32) (.k (.bool false)), none, none, [], none⟩,
  ⟨(some 4), .mv (.t 33), none, none, [], none⟩]
def ac_law07_ExtFinds_22 : AC := .reg l_law07_ExtFinds_22
def ac_law07_ExtFinds_23 : AC := .seq ac_law07_ExtFinds_22 .ret
def ac_law07_ExtFinds_24 : AC := .seq ac_law07_ExtFinds_21 ac_law07_ExtFinds_23
def ac_law07_ExtFinds_25 : AC := .seq ac_law07_ExtFinds_5 ac_law07_ExtFinds_24
def ac_law07_ExtFinds_26 : AC := .seq ac_law07_ExtFinds_0 ac_law07_ExtFinds_25
def ac_law07_ExtFinds : AC := ac_law07_ExtFinds_26
theorem comp_law07_ExtFinds : compF Try.prog [] (drawR Try.prog [] Try.f10.ntmps) [([0, 1, 5], 0)] 2 Try.f10 = some (ac_law07_ExtFinds, [.t 4]) := by kernel_rfl
def U_law07_ExtFinds := (And.intro (And.intro (And.intro (And.intro (And.intro (And.intro @ac_law07_ExtFinds.eq_1 (@mR _ _ ac_law07_ExtFinds_0.eq_1)) (@mR _ _ ac_law07_ExtFinds_1.eq_1)) (And.intro (@mR _ _ ac_law07_ExtFinds_2.eq_1) (@mU _ _ ac_law07_ExtFinds_3.eq_1))) (And.intro (And.intro (And.intro (@mU _ _ ac_law07_ExtFinds_4.eq_1) (@mU _ _ ac_law07_ExtFinds_5.eq_1)) (@mR _ _ ac_law07_ExtFinds_6.eq_1)) (And.intro (@mR _ _ ac_law07_ExtFinds_7.eq_1) (@mU _ _ ac_law07_ExtFinds_8.eq_1)))) (And.intro (And.intro (And.intro (And.intro (@mU _ _ ac_law07_ExtFinds_9.eq_1) (@mR _ _ ac_law07_ExtFinds_10.eq_1)) (@mR _ _ ac_law07_ExtFinds_11.eq_1)) (And.intro (@mU _ _ ac_law07_ExtFinds_12.eq_1) (@mU _ _ ac_law07_ExtFinds_13.eq_1))) (And.intro (And.intro (@mU _ _ ac_law07_ExtFinds_14.eq_1) (@mU _ _ ac_law07_ExtFinds_15.eq_1)) (And.intro (@mR _ _ ac_law07_ExtFinds_16.eq_1) (@mU _ _ ac_law07_ExtFinds_17.eq_1))))) (And.intro (And.intro (And.intro (And.intro (And.intro (@mU _ _ ac_law07_ExtFinds_18.eq_1) (@mU _ _ ac_law07_ExtFinds_19.eq_1)) (@mU _ _ ac_law07_ExtFinds_20.eq_1)) (And.intro (@mU _ _ ac_law07_ExtFinds_21.eq_1) (@mR _ _ ac_law07_ExtFinds_22.eq_1))) (And.intro (And.intro (@mU _ _ ac_law07_ExtFinds_23.eq_1) (@mU _ _ ac_law07_ExtFinds_24.eq_1)) (And.intro (@mU _ _ ac_law07_ExtFinds_25.eq_1) (@mU _ _ ac_law07_ExtFinds_26.eq_1)))) (And.intro (And.intro (And.intro (And.intro @l_law07_ExtFinds_0.eq_1 @l_law07_ExtFinds_1.eq_1) @l_law07_ExtFinds_2.eq_1) (And.intro @l_law07_ExtFinds_6.eq_1 @l_law07_ExtFinds_7.eq_1)) (And.intro (And.intro @l_law07_ExtFinds_10.eq_1 @l_law07_ExtFinds_11.eq_1) (And.intro @l_law07_ExtFinds_16.eq_1 @l_law07_ExtFinds_22.eq_1)))))

/- scoria/scorialaw07.ExtCounts -/
def l_law07_ExtCounts_0 : List AOp := [⟨(some 2), .mv (.k (.bool false)), none, none, [], none⟩]
def ac_law07_ExtCounts_0 : AC := .reg l_law07_ExtCounts_0
def l_law07_ExtCounts_1 : List AOp := [⟨(some 9), .mv (.t 0), none, none, [], none⟩,
  ⟨(some 10), .call false 13 [(.t 9)], none, none, [], none⟩,
  ⟨(some 11), .un .not (.t 10), none, none, [], none⟩]
def ac_law07_ExtCounts_1 : AC := .reg l_law07_ExtCounts_1
def l_law07_ExtCounts_2 : List AOp := [⟨(some 12), .call false 14 [], none, none, [], none⟩,
  ⟨(some 2), .mv (.t 12), none, none, [], none⟩]
def ac_law07_ExtCounts_2 : AC := .reg l_law07_ExtCounts_2
def ac_law07_ExtCounts_3 : AC := .seq ac_law07_ExtCounts_2 .ret
def ac_law07_ExtCounts_4 : AC := .cond (.t 11) ac_law07_ExtCounts_3 .skip
def ac_law07_ExtCounts_5 : AC := .seq ac_law07_ExtCounts_1 ac_law07_ExtCounts_4
def l_law07_ExtCounts_6 : List AOp := [⟨(some 13), .mv (.t 0), none, none, [], none⟩,
  ⟨(some 14), .call false 15 [(.t 13)], none, none, [], none⟩,
  ⟨(some 15), .call false 17 [(.t 14)], none, none, [], none⟩,
  ⟨(some 16), .un .not (.t 15), none, none, [], none⟩]
def ac_law07_ExtCounts_6 : AC := .reg l_law07_ExtCounts_6
def l_law07_ExtCounts_7 : List AOp := [⟨(some 17), .call false 14 [], none, none, [], none⟩,
  ⟨(some 18), .mv (.t 17), none, none, [], none⟩,
  ⟨(some 19), .mv (.t 0), (some (18, true)), none, [], none⟩,
  ⟨(some 20), .call false 30 [(.t 19)], (some (18, true)), none, [], none⟩,
  ⟨(some 21), .bin .eql (.t 20) (.k (.int .i64 0)), (some (18, true)), none, [], none⟩,
  ⟨(some 22), .pick (.t 18) (.t 21) (.k (.bool false)), none, none, [], none⟩,
  ⟨(some 23), .mv (.t 22), none, none, [], none⟩,
  ⟨(some 24), .mv (.t 0), (some (23, true)), none, [], none⟩,
  ⟨(some 25), .call false 31 [(.t 24)], (some (23, true)), none, [], none⟩,
  ⟨(some 26), .len (.t 25), (some (23, true)), none, [], none⟩,
  ⟨(some 27), .bin .eql (.t 26) (.k (.int .i64 0)), (some (23, true)), none, [], none⟩,
  ⟨(some 28), .pick (.t 23) (.t 27) (.k (.bool false)), none, none, [], none⟩,
  ⟨(some 2), .mv (.t 28), none, none, [], none⟩]
def ac_law07_ExtCounts_7 : AC := .reg l_law07_ExtCounts_7
def ac_law07_ExtCounts_8 : AC := .seq ac_law07_ExtCounts_7 .ret
def ac_law07_ExtCounts_9 : AC := .cond (.t 16) ac_law07_ExtCounts_8 .skip
def ac_law07_ExtCounts_10 : AC := .seq ac_law07_ExtCounts_6 ac_law07_ExtCounts_9
def l_law07_ExtCounts_11 : List AOp := [⟨(some 29), .blds true [(.int .i64 0)] 0 [], none, none, [], none⟩,
  ⟨(some 3), .mv (.k (.int .i64 0)), none, none, [], none⟩,
  ⟨(some 4), .mv (.t 29), none, none, [], none⟩]
def ac_law07_ExtCounts_11 : AC := .reg l_law07_ExtCounts_11
def l_law07_ExtCounts_12 : List AOp := [⟨(some 5), .mv (.k (.int .i64 0)), none, none, [], none⟩]
def ac_law07_ExtCounts_12 : AC := .reg l_law07_ExtCounts_12
def l_law07_ExtCounts_13 : List AOp := [⟨(some 30), .mv (.t 5), none, none, [], none⟩,
  ⟨(some 31), .mv (.t 0), none, none, [], none⟩,
  ⟨(some 32), .len (.t 31), none, none, [], none⟩,
  ⟨(some 33), .bin .lss (.t 30) (.t 32), none, none, [], none⟩]
def ac_law07_ExtCounts_13 : AC := .reg l_law07_ExtCounts_13
def ac_law07_ExtCounts_14 : AC := .cond (.t 33) .skip (.exit 0)
def ac_law07_ExtCounts_15 : AC := .seq ac_law07_ExtCounts_13 ac_law07_ExtCounts_14
def l_law07_ExtCounts_16 : List AOp := [⟨(some 36), .mv (.t 3), none, none, [], none⟩,
  ⟨(some 37), .mv (.t 0), none, none, [], none⟩,
  ⟨(some 38), .mv (.t 5), none, none, [], none⟩,
  ⟨(some 39), .isl 4 (.t 37) (.t 38), none, none, [], none⟩,
  ⟨(some 40), .faddr 1 (.t 39), none, none, [], none⟩,
  ⟨(some 41), .load none (.t 40), none, none, [], none⟩,
  ⟨(some 42), .bin .add (.t 36) (.t 41), none, none, [], none⟩,
  ⟨(some 3), .mv (.t 42), none, none, [], none⟩]
def ac_law07_ExtCounts_16 : AC := .reg l_law07_ExtCounts_16
def l_law07_ExtCounts_17 : List AOp := [⟨(some 43), .mv (.t 3), none, none, [], none⟩,
  ⟨(some 44), .bin .gtr (.t 43) (.k (.int .i64 2000)), none, none, [], none⟩]
def ac_law07_ExtCounts_17 : AC := .reg l_law07_ExtCounts_17
def l_law07_ExtCounts_18 : List AOp := [⟨(some 45), .call false 14 [], none, none, [], none⟩,
  ⟨(some 2), .mv (.t 45), none, none, [], none⟩]
def ac_law07_ExtCounts_18 : AC := .reg l_law07_ExtCounts_18
def ac_law07_ExtCounts_19 : AC := .seq ac_law07_ExtCounts_18 .ret
def ac_law07_ExtCounts_20 : AC := .cond (.t 44) ac_law07_ExtCounts_19 .skip
def ac_law07_ExtCounts_21 : AC := .seq ac_law07_ExtCounts_17 ac_law07_ExtCounts_20
def l_law07_ExtCounts_22 : List AOp := [⟨(some 6), .mv (.k (.int .i64 0)), none, none, [], none⟩]
def ac_law07_ExtCounts_22 : AC := .reg l_law07_ExtCounts_22
def l_law07_ExtCounts_23 : List AOp := [⟨(some 46), .mv (.t 6), none, none, [], none⟩,
  ⟨(some 47), .mv (.t 0), none, none, [], none⟩,
  ⟨(some 48), .mv (.t 5), none, none, [], none⟩,
  ⟨(some 49), .isl 4 (.t 47) (.t 48), none, none, [], none⟩,
  ⟨(some 50), .faddr 1 (.t 49), none, none, [], none⟩,
  ⟨(some 51), .load none (.t 50), none, none, [], none⟩,
  ⟨(some 52), .bin .lss (.t 46) (.t 51), none, none, [], none⟩,
  ⟨(some 53), .mv (.t 52), none, none, [], none⟩,
  ⟨(some 54), .mv (.t 0), (some (53, true)), none, [], none⟩,
  ⟨(some 55), .mv (.t 5), (some (53, true)), none, [], none⟩,
  ⟨(some 56), .isl 4 (.t 54) (.t 55), (some (53, true)), none, [], none⟩,
  ⟨(some 57), .faddr 2 (.t 56), (some (53, true)), none, [], none⟩,
  ⟨(some 58), .load none (.t 57), (some (53, true)), none, [], none⟩,
  ⟨(some 59), .bin .eql (.t 58) (.k (.int .i64 2)), (some (53, true)), none, [], none⟩,
  ⟨(some 60), .pick (.t 53) (.t 59) (.k (.bool false)), none, none, [], none⟩]
def ac_law07_ExtCounts_23 : AC := .reg l_law07_ExtCounts_23
def ac_law07_ExtCounts_24 : AC := .cond (.t 60) .skip (.exit 2)
def ac_law07_ExtCounts_25 : AC := .seq ac_law07_ExtCounts_23 ac_law07_ExtCounts_24
def l_law07_ExtCounts_26 : List AOp := [⟨(some 63), .mv (.t 4), none, none, [], none⟩,
  ⟨(some 64), .mv (.t 0), none, none, [], none⟩,
  ⟨(some 65), .mv (.t 5), none, none, [], none⟩,
  ⟨(some 66), .isl 4 (.t 64) (.t 65), none, none, [], none⟩,
  ⟨(some 67), .faddr 3 (.t 66), none, none, [], none⟩,
  ⟨(some 68), .load none (.t 67), none, none, [], none⟩,
  ⟨(some 69), .mv (.t 6), none, none, [], none⟩,
  ⟨(some 70), .bin .add (.t 68) (.t 69), none, none, [], none⟩,
  ⟨(some 71), .blds false [(.int .i64 0)] 1 [(0, (.t 70))], none, none, [], none⟩,
  ⟨(some 72), .app 1 8 [(.int .i64 0)] (.t 63) (.t 71), none, none, [], none⟩,
  ⟨(some 4), .mv (.t 72), none, none, [], none⟩]
def ac_law07_ExtCounts_26 : AC := .reg l_law07_ExtCounts_26
def ac_law07_ExtCounts_27 : AC := .block 3 ac_law07_ExtCounts_26
def l_law07_ExtCounts_28 : List AOp := [⟨(some 61), .mv (.t 6), none, none, [], none⟩,
  ⟨(some 62), .bin .add (.t 61) (.k (.int .i64 1)), none, none, [], none⟩,
  ⟨(some 6), .mv (.t 62), none, none, [], none⟩]
def ac_law07_ExtCounts_28 : AC := .reg l_law07_ExtCounts_28
def ac_law07_ExtCounts_29 : AC := .seq ac_law07_ExtCounts_27 ac_law07_ExtCounts_28
def ac_law07_ExtCounts_30 : AC := .seq ac_law07_ExtCounts_25 ac_law07_ExtCounts_29
def ac_law07_ExtCounts_31 : AC := .loop [0, 3, 4, 5, 6] 1 ac_law07_ExtCounts_30
def ac_law07_ExtCounts_32 : AC := .block 2 ac_law07_ExtCounts_31
def ac_law07_ExtCounts_33 : AC := .seq ac_law07_ExtCounts_22 ac_law07_ExtCounts_32
def ac_law07_ExtCounts_34 : AC := .seq ac_law07_ExtCounts_21 ac_law07_ExtCounts_33
def ac_law07_ExtCounts_35 : AC := .seq ac_law07_ExtCounts_16 ac_law07_ExtCounts_34
def ac_law07_ExtCounts_36 : AC := .block 1 ac_law07_ExtCounts_35
def l_law07_ExtCounts_37 : List AOp := [⟨(some 34), .mv (.t 5), none, none, [], none⟩,
  ⟨(some 35), .bin .add (.t 34) (.k (.int .i64 1)), none, none, [], none⟩,
  ⟨(some 5), .mv (.t 35), none, none, [], none⟩]
def ac_law07_ExtCounts_37 : AC := .reg l_law07_ExtCounts_37
def ac_law07_ExtCounts_38 : AC := .seq ac_law07_ExtCounts_36 ac_law07_ExtCounts_37
def ac_law07_ExtCounts_39 : AC := .seq ac_law07_ExtCounts_15 ac_law07_ExtCounts_38
def ac_law07_ExtCounts_40 : AC := .loop [0, 3, 4, 5] 1 ac_law07_ExtCounts_39
def ac_law07_ExtCounts_41 : AC := .block 0 ac_law07_ExtCounts_40
def ac_law07_ExtCounts_42 : AC := .seq ac_law07_ExtCounts_12 ac_law07_ExtCounts_41
def l_law07_ExtCounts_43 : List AOp := [⟨(some 73), .mv (.t 0), none, none, [], none⟩,
  ⟨(some 74), .call false 31 [(.t 73)], none, none, [], none⟩,
  ⟨(some 7), .mv (.t 74), none, none, [], none⟩]
def ac_law07_ExtCounts_43 : AC := .reg l_law07_ExtCounts_43
def l_law07_ExtCounts_44 : List AOp := [⟨(some 75), .mv (.t 0), none, none, [], none⟩,
  ⟨(some 76), .call false 30 [(.t 75)], none, none, [], none⟩,
  ⟨(some 77), .mv (.t 3), none, none, [], none⟩,
  ⟨(some 78), .bin .neq (.t 76) (.t 77), none, none, [], none⟩,
  ⟨(some 79), .mv (.t 78), none, none, [], none⟩,
  ⟨(some 80), .mv (.t 7), (some (79, false)), none, [], none⟩,
  ⟨(some 81), .len (.t 80), (some (79, false)), none, [], none⟩,
  ⟨(some 82), .mv (.t 4), (some (79, false)), none, [], none⟩,
  ⟨(some 83), .len (.t 82), (some (79, false)), none, [], none⟩,
  ⟨(some 84), .bin .neq (.t 81) (.t 83), (some (79, false)), none, [], none⟩,
  ⟨(some 85), .pick (.t 79) (.k (.bool true)) (.t 84), none, none, [], none⟩]
def ac_law07_ExtCounts_44 : AC := .reg l_law07_ExtCounts_44
def l_law07_ExtCounts_45 : List AOp := [⟨(some 2), .mv (.k (.bool false)), none, none, [], none⟩]
def ac_law07_ExtCounts_45 : AC := .reg l_law07_ExtCounts_45
def ac_law07_ExtCounts_46 : AC := .seq ac_law07_ExtCounts_45 .ret
def ac_law07_ExtCounts_47 : AC := .cond (.t 85) ac_law07_ExtCounts_46 .skip
def ac_law07_ExtCounts_48 : AC := .seq ac_law07_ExtCounts_44 ac_law07_ExtCounts_47
def l_law07_ExtCounts_49 : List AOp := [⟨(some 8), .mv (.k (.int .i64 0)), none, none, [], none⟩]
def ac_law07_ExtCounts_49 : AC := .reg l_law07_ExtCounts_49
def l_law07_ExtCounts_50 : List AOp := [⟨(some 86), .mv (.t 8), none, none, [], none⟩,
  ⟨(some 87), .mv (.t 4), none, none, [], none⟩,
  ⟨(some 88), .len (.t 87), none, none, [], none⟩,
  ⟨(some 89), .bin .lss (.t 86) (.t 88), none, none, [], none⟩]
def ac_law07_ExtCounts_50 : AC := .reg l_law07_ExtCounts_50
def ac_law07_ExtCounts_51 : AC := .cond (.t 89) .skip (.exit 4)
def ac_law07_ExtCounts_52 : AC := .seq ac_law07_ExtCounts_50 ac_law07_ExtCounts_51
def l_law07_ExtCounts_53 : List AOp := [⟨(some 92), .mv (.t 7), none, none, [], none⟩,
  ⟨(some 93), .mv (.t 8), none, none, [], none⟩,
  ⟨(some 94), .isl 1 (.t 92) (.t 93), none, none, [], none⟩,
  ⟨(some 95), .load none (.t 94), none, none, [], none⟩,
  ⟨(some 96), .mv (.t 4), none, none, [], none⟩,
  ⟨(some 97), .mv (.t 8), none, none, [], none⟩,
  ⟨(some 98), .isl 1 (.t 96) (.t 97), none, none, [], none⟩,
  ⟨(some 99), .load none (.t 98), none, none, [], none⟩,
  ⟨(some 100), .bin .neq (.t 95) (.t 99), none, none, [], none⟩]
def ac_law07_ExtCounts_53 : AC := .dreg 0 l_law07_ExtCounts_53
def l_law07_ExtCounts_54 : List AOp := [⟨(some 2), .mv (.k (.bool false)), none, none, [], none⟩]
def ac_law07_ExtCounts_54 : AC := .reg l_law07_ExtCounts_54
def ac_law07_ExtCounts_55 : AC := .seq ac_law07_ExtCounts_54 .ret
def ac_law07_ExtCounts_56 : AC := .cond (.t 100) ac_law07_ExtCounts_55 .skip
def ac_law07_ExtCounts_57 : AC := .seq ac_law07_ExtCounts_53 ac_law07_ExtCounts_56
def ac_law07_ExtCounts_58 : AC := .block 5 ac_law07_ExtCounts_57
def l_law07_ExtCounts_59 : List AOp := [⟨(some 90), .mv (.t 8), none, none, [], none⟩,
  ⟨(some 91), .bin .add (.t 90) (.k (.int .i64 1)), none, none, [], none⟩,
  ⟨(some 8), .mv (.t 91), none, none, [], none⟩]
def ac_law07_ExtCounts_59 : AC := .reg l_law07_ExtCounts_59
def ac_law07_ExtCounts_60 : AC := .seq ac_law07_ExtCounts_58 ac_law07_ExtCounts_59
def ac_law07_ExtCounts_61 : AC := .seq ac_law07_ExtCounts_52 ac_law07_ExtCounts_60
def ac_law07_ExtCounts_62 : AC := .loop [4, 7, 8] 1 ac_law07_ExtCounts_61
def ac_law07_ExtCounts_63 : AC := .block 4 ac_law07_ExtCounts_62
def ac_law07_ExtCounts_64 : AC := .seq ac_law07_ExtCounts_49 ac_law07_ExtCounts_63
def l_law07_ExtCounts_65 : List AOp := [⟨(some 101), .call false 14 [], none, none, [], none⟩,
  ⟨(some 2), .mv (.t 101), none, none, [], none⟩]
def ac_law07_ExtCounts_65 : AC := .reg l_law07_ExtCounts_65
def ac_law07_ExtCounts_66 : AC := .seq ac_law07_ExtCounts_65 .ret
def ac_law07_ExtCounts_67 : AC := .seq ac_law07_ExtCounts_64 ac_law07_ExtCounts_66
def ac_law07_ExtCounts_68 : AC := .seq ac_law07_ExtCounts_48 ac_law07_ExtCounts_67
def ac_law07_ExtCounts_69 : AC := .seq ac_law07_ExtCounts_43 ac_law07_ExtCounts_68
def ac_law07_ExtCounts_70 : AC := .seq ac_law07_ExtCounts_42 ac_law07_ExtCounts_69
def ac_law07_ExtCounts_71 : AC := .seq ac_law07_ExtCounts_11 ac_law07_ExtCounts_70
def ac_law07_ExtCounts_72 : AC := .seq ac_law07_ExtCounts_10 ac_law07_ExtCounts_71
def ac_law07_ExtCounts_73 : AC := .seq ac_law07_ExtCounts_5 ac_law07_ExtCounts_72
def ac_law07_ExtCounts_74 : AC := .seq ac_law07_ExtCounts_0 ac_law07_ExtCounts_73
def ac_law07_ExtCounts : AC := ac_law07_ExtCounts_74
theorem comp_law07_ExtCounts : compF Try.prog [29] (drawR Try.prog [29] Try.f11.ntmps) [([0, 3, 4, 5], 1), ([0, 3, 4, 5, 6], 1), ([4, 7, 8], 1)] 1 Try.f11 = some (ac_law07_ExtCounts, [.t 2]) := by kernel_rfl
def U_law07_ExtCounts := (And.intro (And.intro (And.intro (And.intro (And.intro (And.intro (And.intro @ac_law07_ExtCounts.eq_1 (@mR _ _ ac_law07_ExtCounts_0.eq_1)) (And.intro (@mR _ _ ac_law07_ExtCounts_1.eq_1) (@mR _ _ ac_law07_ExtCounts_2.eq_1))) (And.intro (And.intro (@mU _ _ ac_law07_ExtCounts_3.eq_1) (@mU _ _ ac_law07_ExtCounts_4.eq_1)) (@mU _ _ ac_law07_ExtCounts_5.eq_1))) (And.intro (And.intro (And.intro (@mR _ _ ac_law07_ExtCounts_6.eq_1) (@mR _ _ ac_law07_ExtCounts_7.eq_1)) (@mU _ _ ac_law07_ExtCounts_8.eq_1)) (And.intro (And.intro (@mU _ _ ac_law07_ExtCounts_9.eq_1) (@mU _ _ ac_law07_ExtCounts_10.eq_1)) (@mR _ _ ac_law07_ExtCounts_11.eq_1)))) (And.intro (And.intro (And.intro (And.intro (@mR _ _ ac_law07_ExtCounts_12.eq_1) (@mR _ _ ac_law07_ExtCounts_13.eq_1)) (And.intro (@mU _ _ ac_law07_ExtCounts_14.eq_1) (@mU _ _ ac_law07_ExtCounts_15.eq_1))) (And.intro (And.intro (@mR _ _ ac_law07_ExtCounts_16.eq_1) (@mR _ _ ac_law07_ExtCounts_17.eq_1)) (@mR _ _ ac_law07_ExtCounts_18.eq_1))) (And.intro (And.intro (And.intro (@mU _ _ ac_law07_ExtCounts_19.eq_1) (@mU _ _ ac_law07_ExtCounts_20.eq_1)) (@mU _ _ ac_law07_ExtCounts_21.eq_1)) (And.intro (And.intro (@mR _ _ ac_law07_ExtCounts_22.eq_1) (@mR _ _ ac_law07_ExtCounts_23.eq_1)) (@mU _ _ ac_law07_ExtCounts_24.eq_1))))) (And.intro (And.intro (And.intro (And.intro (And.intro (@mU _ _ ac_law07_ExtCounts_25.eq_1) (@mR _ _ ac_law07_ExtCounts_26.eq_1)) (And.intro (@mU _ _ ac_law07_ExtCounts_27.eq_1) (@mR _ _ ac_law07_ExtCounts_28.eq_1))) (And.intro (And.intro (@mU _ _ ac_law07_ExtCounts_29.eq_1) (@mU _ _ ac_law07_ExtCounts_30.eq_1)) (@mU _ _ ac_law07_ExtCounts_31.eq_1))) (And.intro (And.intro (And.intro (@mU _ _ ac_law07_ExtCounts_32.eq_1) (@mU _ _ ac_law07_ExtCounts_33.eq_1)) (@mU _ _ ac_law07_ExtCounts_34.eq_1)) (And.intro (And.intro (@mU _ _ ac_law07_ExtCounts_35.eq_1) (@mU _ _ ac_law07_ExtCounts_36.eq_1)) (@mR _ _ ac_law07_ExtCounts_37.eq_1)))) (And.intro (And.intro (And.intro (And.intro (@mU _ _ ac_law07_ExtCounts_38.eq_1) (@mU _ _ ac_law07_ExtCounts_39.eq_1)) (@mU _ _ ac_law07_ExtCounts_40.eq_1)) (And.intro (And.intro (@mU _ _ ac_law07_ExtCounts_41.eq_1) (@mU _ _ ac_law07_ExtCounts_42.eq_1)) (@mR _ _ ac_law07_ExtCounts_43.eq_1))) (And.intro (And.intro (And.intro (@mR _ _ ac_law07_ExtCounts_44.eq_1) (@mR _ _ ac_law07_ExtCounts_45.eq_1)) (@mU _ _ ac_law07_ExtCounts_46.eq_1)) (And.intro (And.intro (@mU _ _ ac_law07_ExtCounts_47.eq_1) (@mU _ _ ac_law07_ExtCounts_48.eq_1)) (@mR _ _ ac_law07_ExtCounts_49.eq_1)))))) (And.intro (And.intro (And.intro (And.intro (And.intro (And.intro (@mR _ _ ac_law07_ExtCounts_50.eq_1) (@mU _ _ ac_law07_ExtCounts_51.eq_1)) (And.intro (@mU _ _ ac_law07_ExtCounts_52.eq_1) (@mD _ _ _ ac_law07_ExtCounts_53.eq_1))) (And.intro (And.intro (@mR _ _ ac_law07_ExtCounts_54.eq_1) (@mU _ _ ac_law07_ExtCounts_55.eq_1)) (@mU _ _ ac_law07_ExtCounts_56.eq_1))) (And.intro (And.intro (And.intro (@mU _ _ ac_law07_ExtCounts_57.eq_1) (@mU _ _ ac_law07_ExtCounts_58.eq_1)) (@mR _ _ ac_law07_ExtCounts_59.eq_1)) (And.intro (And.intro (@mU _ _ ac_law07_ExtCounts_60.eq_1) (@mU _ _ ac_law07_ExtCounts_61.eq_1)) (@mU _ _ ac_law07_ExtCounts_62.eq_1)))) (And.intro (And.intro (And.intro (And.intro (@mU _ _ ac_law07_ExtCounts_63.eq_1) (@mU _ _ ac_law07_ExtCounts_64.eq_1)) (@mR _ _ ac_law07_ExtCounts_65.eq_1)) (And.intro (And.intro (@mU _ _ ac_law07_ExtCounts_66.eq_1) (@mU _ _ ac_law07_ExtCounts_67.eq_1)) (@mU _ _ ac_law07_ExtCounts_68.eq_1))) (And.intro (And.intro (And.intro (@mU _ _ ac_law07_ExtCounts_69.eq_1) (@mU _ _ ac_law07_ExtCounts_70.eq_1)) (@mU _ _ ac_law07_ExtCounts_71.eq_1)) (And.intro (And.intro (@mU _ _ ac_law07_ExtCounts_72.eq_1) (@mU _ _ ac_law07_ExtCounts_73.eq_1)) (@mU _ _ ac_law07_ExtCounts_74.eq_1))))) (And.intro (And.intro (And.intro (And.intro (And.intro @l_law07_ExtCounts_0.eq_1 @l_law07_ExtCounts_1.eq_1) (And.intro @l_law07_ExtCounts_2.eq_1 @l_law07_ExtCounts_6.eq_1)) (And.intro (And.intro @l_law07_ExtCounts_7.eq_1 @l_law07_ExtCounts_11.eq_1) @l_law07_ExtCounts_12.eq_1)) (And.intro (And.intro (And.intro @l_law07_ExtCounts_13.eq_1 @l_law07_ExtCounts_16.eq_1) @l_law07_ExtCounts_17.eq_1) (And.intro (And.intro @l_law07_ExtCounts_18.eq_1 @l_law07_ExtCounts_22.eq_1) @l_law07_ExtCounts_23.eq_1))) (And.intro (And.intro (And.intro (And.intro @l_law07_ExtCounts_26.eq_1 @l_law07_ExtCounts_28.eq_1) @l_law07_ExtCounts_37.eq_1) (And.intro (And.intro @l_law07_ExtCounts_43.eq_1 @l_law07_ExtCounts_44.eq_1) @l_law07_ExtCounts_45.eq_1)) (And.intro (And.intro (And.intro @l_law07_ExtCounts_49.eq_1 @l_law07_ExtCounts_50.eq_1) @l_law07_ExtCounts_53.eq_1) (And.intro (And.intro @l_law07_ExtCounts_54.eq_1 @l_law07_ExtCounts_59.eq_1) @l_law07_ExtCounts_65.eq_1))))))

/- scoria/scorialaw07.ExtMoves -/
def l_law07_ExtMoves_0 : List AOp := [⟨(some 6), .mv (.k (.bool false)), none, none, [], none⟩]
def ac_law07_ExtMoves_0 : AC := .reg l_law07_ExtMoves_0
def l_law07_ExtMoves_1 : List AOp := [⟨(some 11), .mv (.t 0), none, none, [], none⟩,
  ⟨(some 12), .call false 13 [(.t 11)], none, none, [], none⟩,
  ⟨(some 13), .un .not (.t 12), none, none, [], none⟩,
  ⟨(some 14), .mv (.t 13), none, none, [], none⟩,
  ⟨(some 15), .mv (.t 0), (some (14, false)), none, [], none⟩,
  ⟨(some 16), .call false 15 [(.t 15)], (some (14, false)), none, [], none⟩,
  ⟨(some 17), .call false 17 [(.t 16)], (some (14, false)), none, [], none⟩,
  ⟨(some 18), .un .not (.t 17), (some (14, false)), none, [], none⟩,
  ⟨(some 19), .pick (.t 14) (.k (.bool true)) (.t 18), none, none, [], none⟩,
  ⟨(some 20), .mv (.t 19), none, none, [], none⟩,
  ⟨(some 21), .mv (.t 2), (some (20, false)), none, [], none⟩,
  ⟨(some 22), .bin .lss (.t 21) (.k (.int .i64 0)), (some (20, false)), none, [], none⟩,
  ⟨(some 23), .pick (.t 20) (.k (.bool true)) (.t 22), none, none, [], none⟩,
  ⟨(some 24), .mv (.t 23), none, none, [], none⟩,
  ⟨(some 25), .mv (.t 2), (some (24, false)), none, [], none⟩,
  ⟨(some 26), .bin .geq (.t 25) (.k (.int .i64 2048)), (some (24, false)), none, [], none⟩,
  ⟨(some 27), .pick (.t 24) (.k (.bool true)) (.t 26), none, none, [], none⟩]
def ac_law07_ExtMoves_1 : AC := .reg l_law07_ExtMoves_1
def l_law07_ExtMoves_2 : List AOp := [⟨(some 28), .call false 14 [], none, none, [], none⟩,
  ⟨(some 6), .mv (.t 28), none, none, [], none⟩]
def ac_law07_ExtMoves_2 : AC := .reg l_law07_ExtMoves_2
def ac_law07_ExtMoves_3 : AC := .seq ac_law07_ExtMoves_2 .ret
def ac_law07_ExtMoves_4 : AC := .cond (.t 27) ac_law07_ExtMoves_3 .skip
def ac_law07_ExtMoves_5 : AC := .seq ac_law07_ExtMoves_1 ac_law07_ExtMoves_4
def l_law07_ExtMoves_6 : List AOp := [⟨(some 30), .mv (.t 0), none, none, [], none⟩,
  ⟨(some 31), .mv (.t 1), none, none, [], none⟩,
  ⟨(some 32), .call false 32 [(.t 30), (.t 31)], none, none, [], none⟩,
  ⟨(some 29), .mv (.t 32), none, none, [], none⟩,
  ⟨(some 33), .ext 0 (.t 29), none, none, [], none⟩,
  ⟨(some 34), .ext 1 (.t 29), none, none, [], none⟩,
  ⟨(some 7), .mv (.t 33), none, none, [], none⟩,
  ⟨(some 8), .mv (.t 34), none, none, [], none⟩]
def ac_law07_ExtMoves_6 : AC := .reg l_law07_ExtMoves_6
def l_law07_ExtMoves_7 : List AOp := [⟨(some 35), .mv (.t 7), none, none, [], none⟩,
  ⟨(some 36), .bin .neq (.t 35) (.k (.int .i64 2)), none, none, [], none⟩]
def ac_law07_ExtMoves_7 : AC := .reg l_law07_ExtMoves_7
def l_law07_ExtMoves_8 : List AOp := [⟨(some 37), .call false 14 [], none, none, [], none⟩,
  ⟨(some 6), .mv (.t 37), none, none, [], none⟩]
def ac_law07_ExtMoves_8 : AC := .reg l_law07_ExtMoves_8
def ac_law07_ExtMoves_9 : AC := .seq ac_law07_ExtMoves_8 .ret
def ac_law07_ExtMoves_10 : AC := .cond (.t 36) ac_law07_ExtMoves_9 .skip
def ac_law07_ExtMoves_11 : AC := .seq ac_law07_ExtMoves_7 ac_law07_ExtMoves_10
def l_law07_ExtMoves_12 : List AOp := [⟨(some 39), .mv (.t 0), none, none, [], none⟩,
  ⟨(some 40), .mv (.t 1), none, none, [], none⟩,
  ⟨(some 41), .mv (.t 2), none, none, [], none⟩,
  ⟨(some 42), .build [(.int .i64 0), (.int .i64 0), (.int .i64 0), (.int .i64 0)] [(0, 1, (.t 40)), (1, 1, (.k (.int .i64 1))), (2, 1, (.k (.int .i64 2))), (3, 1, (.t 41))], none, none, [], none⟩,
  ⟨(some 43), .call false 20 [(.t 39), (.t 42)], none, none, [], none⟩,
  ⟨(some 38), .mv (.t 43), none, none, [], none⟩,
  ⟨(some 44), .ext 0 (.t 38), none, none, [], none⟩,
  ⟨(some 45), .ext 1 (.t 38), none, none, [], none⟩,
  ⟨(some 9), .mv (.t 44), none, none, [], none⟩,
  ⟨(some 10), .mv (.t 45), none, none, [], none⟩]
def ac_law07_ExtMoves_12 : AC := .reg l_law07_ExtMoves_12
def l_law07_ExtMoves_13 : List AOp := [⟨(some 46), .mv (.t 10), none, none, [], none⟩,
  ⟨(some 47), .bin .neq (.t 46) (.k (.int .i64 0)), none, none, [], none⟩,
  ⟨(some 48), .mv (.t 47), none, none, [], none⟩,
  ⟨(some 49), .mv (.t 9), (some (48, false)), none, [], none⟩,
  ⟨(some 50), .call false 30 [(.t 49)], (some (48, false)), none, [], none⟩,
  ⟨(some 51), .mv (.t 0), (some (48, false)), none, [], none⟩,
  ⟨(some 52), .call false 30 [(.t 51)], (some (48, false)), none, [], none⟩,
  ⟨(some 53), .bin .neq (.t 50) (.t 52), (some (48, false)), none, [], none⟩,
  ⟨(some 54), .pick (.t 48) (.k (.bool true)) (.t 53), none, none, [], none⟩,
  ⟨(some 55), .mv (.t 54), none, none, [], none⟩,
  ⟨(some 56), .mv (.t 9), (some (55, false)), none, [], none⟩,
  ⟨(some 57), .mv (.t 1), (some (55, false)), none, [], none⟩,
  ⟨(some 58), .call false 28 [(.t 56), (.t 57)], (some (55, false)), none, [], none⟩,
  ⟨(some 59), .mv (.t 2), (some (55, false)), none, [], none⟩,
  ⟨(some 60), .build [(.int .i64 0), (.int .i64 0)] [(0, 1, (.k (.int .i64 2))), (1, 1, (.t 59))], (some (55, false)), none, [], none⟩,
  ⟨(some 61), .eqs true [.i, .i] (.t 58) (.t 60), (some (55, false)), none, [], none⟩,
  ⟨(some 62), .pick (.t 55) (.k (.bool true)) (.t 61), none, none, [], none⟩]
def ac_law07_ExtMoves_13 : AC := .reg l_law07_ExtMoves_13
def l_law07_ExtMoves_14 : List AOp := [⟨(some 6), .mv (.k (.bool false)), none, none, [], none⟩]
def ac_law07_ExtMoves_14 : AC := .reg l_law07_ExtMoves_14
def ac_law07_ExtMoves_15 : AC := .seq ac_law07_ExtMoves_14 .ret
def ac_law07_ExtMoves_16 : AC := .cond (.t 62) ac_law07_ExtMoves_15 .skip
def ac_law07_ExtMoves_17 : AC := .seq ac_law07_ExtMoves_13 ac_law07_ExtMoves_16
def l_law07_ExtMoves_18 : List AOp := [⟨(some 63), .call false 14 [], none, none, [], none⟩,
  ⟨(some 64), .mv (.t 63), none, none, [], none⟩,
  ⟨(some 65), .mv (.t 9), (some (64, true)), none, [], none⟩,
  ⟨(some 66), .mv (.t 0), (some (64, true)), none, [], none⟩,
  ⟨(some 67), .mv (.t 1), (some (64, true)), none, [], none⟩,
  ⟨(some 68), .mv (.t 1), (some (64, true)), none, [], none⟩,
  ⟨(some 69), .mv (.t 2), (some (64, true)), none, [], none⟩,
  ⟨(some 70), .build [(.int .i64 0), (.int .i64 0), (.int .i64 0), (.int .i64 0)] [(0, 1, (.t 68)), (1, 1, (.k (.int .i64 1))), (2, 1, (.k (.int .i64 2))), (3, 1, (.t 69))], (some (64, true)), none, [], none⟩,
  ⟨(some 71), .blds false [(.int .i64 0), (.int .i64 0), (.int .i64 0), (.int .i64 0)] 1 [(0, (.t 70))], (some (64, true)), none, [], none⟩,
  ⟨(some 72), .mv (.t 0), (some (64, true)), none, [], none⟩,
  ⟨(some 73), .call false 15 [(.t 72)], (some (64, true)), none, [], none⟩,
  ⟨(some 74), .call false 19 [(.t 65), (.t 66), (.t 67), (.k (.int .i64 1)), (.t 71), (.t 73)], (some (64, true)), none, [], none⟩,
  ⟨(some 75), .pick (.t 64) (.t 74) (.k (.bool false)), none, none, [], none⟩,
  ⟨(some 6), .mv (.t 75), none, none, [], none⟩]
def ac_law07_ExtMoves_18 : AC := .reg l_law07_ExtMoves_18
def ac_law07_ExtMoves_19 : AC := .seq ac_law07_ExtMoves_18 .ret
def ac_law07_ExtMoves_20 : AC := .seq ac_law07_ExtMoves_17 ac_law07_ExtMoves_19
def ac_law07_ExtMoves_21 : AC := .seq ac_law07_ExtMoves_12 ac_law07_ExtMoves_20
def ac_law07_ExtMoves_22 : AC := .seq ac_law07_ExtMoves_11 ac_law07_ExtMoves_21
def ac_law07_ExtMoves_23 : AC := .seq ac_law07_ExtMoves_6 ac_law07_ExtMoves_22
def ac_law07_ExtMoves_24 : AC := .seq ac_law07_ExtMoves_5 ac_law07_ExtMoves_23
def ac_law07_ExtMoves_25 : AC := .seq ac_law07_ExtMoves_0 ac_law07_ExtMoves_24
def ac_law07_ExtMoves : AC := ac_law07_ExtMoves_25
theorem comp_law07_ExtMoves : compF Try.prog [] (drawR Try.prog [] Try.f12.ntmps) [] 3 Try.f12 = some (ac_law07_ExtMoves, [.t 6]) := by kernel_rfl
def U_law07_ExtMoves := (And.intro (And.intro (And.intro (And.intro (And.intro (And.intro @ac_law07_ExtMoves.eq_1 (@mR _ _ ac_law07_ExtMoves_0.eq_1)) (@mR _ _ ac_law07_ExtMoves_1.eq_1)) (And.intro (@mR _ _ ac_law07_ExtMoves_2.eq_1) (@mU _ _ ac_law07_ExtMoves_3.eq_1))) (And.intro (And.intro (And.intro (@mU _ _ ac_law07_ExtMoves_4.eq_1) (@mU _ _ ac_law07_ExtMoves_5.eq_1)) (@mR _ _ ac_law07_ExtMoves_6.eq_1)) (And.intro (@mR _ _ ac_law07_ExtMoves_7.eq_1) (@mR _ _ ac_law07_ExtMoves_8.eq_1)))) (And.intro (And.intro (And.intro (And.intro (@mU _ _ ac_law07_ExtMoves_9.eq_1) (@mU _ _ ac_law07_ExtMoves_10.eq_1)) (@mU _ _ ac_law07_ExtMoves_11.eq_1)) (And.intro (@mR _ _ ac_law07_ExtMoves_12.eq_1) (@mR _ _ ac_law07_ExtMoves_13.eq_1))) (And.intro (And.intro (@mR _ _ ac_law07_ExtMoves_14.eq_1) (@mU _ _ ac_law07_ExtMoves_15.eq_1)) (And.intro (@mU _ _ ac_law07_ExtMoves_16.eq_1) (@mU _ _ ac_law07_ExtMoves_17.eq_1))))) (And.intro (And.intro (And.intro (And.intro (And.intro (@mR _ _ ac_law07_ExtMoves_18.eq_1) (@mU _ _ ac_law07_ExtMoves_19.eq_1)) (@mU _ _ ac_law07_ExtMoves_20.eq_1)) (And.intro (@mU _ _ ac_law07_ExtMoves_21.eq_1) (@mU _ _ ac_law07_ExtMoves_22.eq_1))) (And.intro (And.intro (@mU _ _ ac_law07_ExtMoves_23.eq_1) (@mU _ _ ac_law07_ExtMoves_24.eq_1)) (And.intro (@mU _ _ ac_law07_ExtMoves_25.eq_1) @l_law07_ExtMoves_0.eq_1))) (And.intro (And.intro (And.intro (And.intro @l_law07_ExtMoves_1.eq_1 @l_law07_ExtMoves_2.eq_1) @l_law07_ExtMoves_6.eq_1) (And.intro @l_law07_ExtMoves_7.eq_1 @l_law07_ExtMoves_8.eq_1)) (And.intro (And.intro @l_law07_ExtMoves_12.eq_1 @l_law07_ExtMoves_13.eq_1) (And.intro @l_law07_ExtMoves_14.eq_1 @l_law07_ExtMoves_18.eq_1)))))

/- scoria/scorialaw07.few -/
def l_law07_few_0 : List AOp := [⟨(some 2), .mv (.k (.bool false)), none, none, [], none⟩]
def ac_law07_few_0 : AC := .reg l_law07_few_0
def l_law07_few_1 : List AOp := [⟨(some 3), .mv (.t 0), none, none, [], none⟩,
  ⟨(some 4), .len (.t 3), none, none, [], none⟩,
  ⟨(some 5), .bin .leq (.t 4) (.k (.int .i64 60)), none, none, [], none⟩,
  ⟨(some 2), .mv (.t 5), none, none, [], none⟩]
def ac_law07_few_1 : AC := .reg l_law07_few_1
def ac_law07_few_2 : AC := .seq ac_law07_few_1 .ret
def ac_law07_few_3 : AC := .seq ac_law07_few_0 ac_law07_few_2
def ac_law07_few : AC := ac_law07_few_3
theorem comp_law07_few : compF Try.prog [] (drawR Try.prog [] Try.f13.ntmps) [] 1 Try.f13 = some (ac_law07_few, [.t 2]) := by kernel_rfl
def U_law07_few := (And.intro (And.intro (And.intro @ac_law07_few.eq_1 (@mR _ _ ac_law07_few_0.eq_1)) (And.intro (@mR _ _ ac_law07_few_1.eq_1) (@mU _ _ ac_law07_few_2.eq_1))) (And.intro (And.intro (@mU _ _ ac_law07_few_3.eq_1) @l_law07_few_0.eq_1) @l_law07_few_1.eq_1))

/- scoria/scorialaw07.awake -/
def l_law07_awake_0 : List AOp := [⟨(some 0), .mv (.k (.bool false)), none, none, [], none⟩]
def ac_law07_awake_0 : AC := .reg l_law07_awake_0
def l_law07_awake_1 : List AOp := [⟨(some 6), .build [(.int .i64 0), (.int .i64 0), (.int .i64 0), (.int .i64 0)] [(0, 1, (.k (.int .i64 0))), (1, 1, (.k (.int .i64 10))), (2, 1, (.k (.int .i64 1)))], none, none, [], none⟩,
  ⟨(some 7), .blds false [(.int .i64 0), (.int .i64 0), (.int .i64 0), (.int .i64 0)] 1 [(0, (.t 6))], none, none, [], none⟩,
  ⟨(some 8), .build [(.int .i64 0), (.int .i64 0), (.int .i64 0), (.int .i64 0)] [(0, 1, (.k (.int .i64 3))), (1, 1, (.k (.int .i64 2))), (2, 1, (.k (.int .i64 2))), (3, 1, (.k (.int .i64 7)))], none, none, [], none⟩,
  ⟨(some 9), .call false 20 [(.t 7), (.t 8)], none, none, [], none⟩,
  ⟨(some 5), .mv (.t 9), none, none, [], none⟩,
  ⟨(some 10), .ext 0 (.t 5), none, none, [], none⟩,
  ⟨(some 11), .ext 1 (.t 5), none, none, [], none⟩,
  ⟨(some 1), .mv (.t 10), none, none, [], none⟩,
  ⟨(some 2), .mv (.t 11), none, none, [], none⟩]
def ac_law07_awake_1 : AC := .reg l_law07_awake_1
def l_law07_awake_2 : List AOp := [⟨(some 13), .mv (.t 1), none, none, [], none⟩,
  ⟨(some 14), .call false 16 [(.t 13), (.k (.int .i64 4)), (.k (.int .i64 2))], none, none, [], none⟩,
  ⟨(some 12), .mv (.t 14), none, none, [], none⟩,
  ⟨(some 15), .ext 0 (.t 12), none, none, [], none⟩,
  ⟨(some 16), .ext 1 (.t 12), none, none, [], none⟩,
  ⟨(some 3), .mv (.t 15), none, none, [], none⟩,
  ⟨(some 4), .mv (.t 16), none, none, [], none⟩]
def ac_law07_awake_2 : AC := .reg l_law07_awake_2
def l_law07_awake_3 : List AOp := [⟨(some 17), .mv (.t 2), none, none, [], none⟩,
  ⟨(some 18), .bin .eql (.t 17) (.k (.int .i64 0)), none, none, [], none⟩,
  ⟨(some 19), .mv (.t 18), none, none, [], none⟩,
  ⟨(some 20), .mv (.t 1), (some (19, true)), none, [], none⟩,
  ⟨(some 21), .len (.t 20), (some (19, true)), none, [], none⟩,
  ⟨(some 22), .bin .eql (.t 21) (.k (.int .i64 3)), (some (19, true)), none, [], none⟩,
  ⟨(some 23), .pick (.t 19) (.t 22) (.k (.bool false)), none, none, [], none⟩,
  ⟨(some 24), .mv (.t 23), none, none, [], none⟩,
  ⟨(some 25), .mv (.t 1), (some (24, true)), none, [], none⟩,
  ⟨(some 26), .isl 4 (.t 25) (.k (.int .i64 1)), (some (24, true)), none, [], none⟩,
  ⟨(some 27), .faddr 3 (.t 26), (some (24, true)), none, [], none⟩,
  ⟨(some 28), .load none (.t 27), (some (24, true)), none, [], none⟩,
  ⟨(some 29), .bin .eql (.t 28) (.k (.int .i64 7)), (some (24, true)), none, [], none⟩,
  ⟨(some 30), .pick (.t 24) (.t 29) (.k (.bool false)), none, none, [], none⟩,
  ⟨(some 31), .mv (.t 30), none, none, [], none⟩,
  ⟨(some 32), .mv (.t 4), (some (31, true)), none, [], none⟩,
  ⟨(some 33), .bin .eql (.t 32) (.k (.int .i64 0)), (some (31, true)), none, [], none⟩,
  ⟨(some 34), .pick (.t 31) (.t 33) (.k (.bool false)), none, none, [], none⟩,
  ⟨(some 35), .mv (.t 34), none, none, [], none⟩,
  ⟨(some 36), .mv (.t 3), (some (35, true)), none, [], none⟩,
  ⟨(some 37), .len (.t 36), (some (35, true)), none, [], none⟩,
  ⟨(some 38), .bin .eql (.t 37) (.k (.int .i64 3)), (some (35, true)), none, [], none⟩,
  ⟨(some 39), .pick (.t 35) (.t 38) (.k (.bool false)), none, none, [], none⟩,
  ⟨(some 40), .mv (.t 39), none, none, [], none⟩,
  ⟨(some 41), .mv (.t 3), (some (40, true)), none, [], none⟩,
  ⟨(some 42), .isl 4 (.t 41) (.k (.int .i64 1)), (some (40, true)), none, [], none⟩,
  ⟨(some 43), .load (some 4) (.t 42), (some (40, true)), none, [], none⟩,
  ⟨(some 44), .build [(.int .i64 0), (.int .i64 0), (.int .i64 0), (.int .i64 0)] [(0, 1, (.k (.int .i64 3))), (1, 1, (.k (.int .i64 1))), (2, 1, (.k (.int .i64 2))), (3, 1, (.k (.int .i64 7)))], (some (40, true)), none, [], none⟩,
  ⟨(some 45), .eqs false [.i, .i, .i, .i] (.t 43) (.t 44), (some (40, true)), none, [], none⟩,
  ⟨(some 46), .pick (.t 40) (.t 45) (.k (.bool false)), none, none, [], none⟩,
  ⟨(some 47), .mv (.t 46), none, none, [], none⟩,
  ⟨(some 48), .mv (.t 3), (some (47, true)), none, [], none⟩,
  ⟨(some 49), .isl 4 (.t 48) (.k (.int .i64 2)), (some (47, true)), none, [], none⟩,
  ⟨(some 50), .faddr 0 (.t 49), (some (47, true)), none, [], none⟩,
  ⟨(some 51), .load none (.t 50), (some (47, true)), none, [], none⟩,
  ⟨(some 52), .bin .eql (.t 51) (.k (.int .i64 6)), (some (47, true)), none, [], none⟩,
  ⟨(some 53), .pick (.t 47) (.t 52) (.k (.bool false)), none, none, [], none⟩,
  ⟨(some 0), .mv (.t 53), none, none, [], none⟩]
def ac_law07_awake_3 : AC := .reg l_law07_awake_3
def ac_law07_awake_4 : AC := .seq ac_law07_awake_3 .ret
def ac_law07_awake_5 : AC := .seq ac_law07_awake_2 ac_law07_awake_4
def ac_law07_awake_6 : AC := .seq ac_law07_awake_1 ac_law07_awake_5
def ac_law07_awake_7 : AC := .seq ac_law07_awake_0 ac_law07_awake_6
def ac_law07_awake : AC := ac_law07_awake_7
theorem comp_law07_awake : compF Try.prog [] (drawR Try.prog [] Try.f14.ntmps) [] 0 Try.f14 = some (ac_law07_awake, [.t 0]) := by kernel_rfl
def U_law07_awake := (And.intro (And.intro (And.intro (And.intro @ac_law07_awake.eq_1 (@mR _ _ ac_law07_awake_0.eq_1)) (And.intro (@mR _ _ ac_law07_awake_1.eq_1) (@mR _ _ ac_law07_awake_2.eq_1))) (And.intro (And.intro (@mR _ _ ac_law07_awake_3.eq_1) (@mU _ _ ac_law07_awake_4.eq_1)) (@mU _ _ ac_law07_awake_5.eq_1))) (And.intro (And.intro (And.intro (@mU _ _ ac_law07_awake_6.eq_1) (@mU _ _ ac_law07_awake_7.eq_1)) @l_law07_awake_0.eq_1) (And.intro (And.intro @l_law07_awake_1.eq_1 @l_law07_awake_2.eq_1) @l_law07_awake_3.eq_1)))

end Go.Proofs.Ytilhghpphpcfhaa.Aw
