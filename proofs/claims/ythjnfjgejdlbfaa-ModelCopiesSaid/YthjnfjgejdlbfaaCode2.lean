/-
  The functions of the seat, translated to abstract code. Written by a program (wip/Gen2.lean).
-/
import Derived.Test.YthjnfjgejdlbfaaCode
import Derived.Test.YthjnfjgejdlbfaaProg
set_option maxRecDepth 100000
set_option linter.all false
namespace Go.Proofs.Ythjnfjgejdlbfaa.Aw
open Go.RowKit
/- scoria/scorialaw17.awake -/
def qd0l0 : List AOp := [⟨(some 0), .mv (.k (.bool false)), none, none, [], none⟩]
def qd0_0 : AC := .reg qd0l0
def qd0l1 : List AOp := [⟨(some 7), .icall 10 [(.k (.int .i64 5))], none, none, [], none⟩,⟨(some 1), .mv (.t 7), none, none, [], none⟩]
def qd0_1 : AC := .reg qd0l1
def qd0l2 : List AOp := [⟨(some 8), .mv (.t 1), none, none, [], none⟩,⟨(some 9), .build [(.int .i64 0), (.int .i64 0), (.int .i64 0), (.int .i64 0), (.str [])] [(0, 1, (.k (.int .i64 1))), (1, 1, (.k (.int .i64 1))), (3, 1, (.k (.int .i64 10)))], none, none, [], none⟩,⟨(some 10), .icall 12 [(.t 8), (.t 9)], none, none, [], none⟩,⟨(some 2), .alloc [(.int .i64 0), (.str []), (.int .i64 0), (.int .i64 0), (.slc [])], none, none, [], none⟩,⟨none, .store 5 (.t 2) (.t 10), none, none, [], none⟩]
def qd0_2 : AC := .reg qd0l2
def qd0l3 : List AOp := [⟨(some 11), .mv (.t 1), none, none, [], none⟩,⟨(some 12), .call false 14 [(.k (.int .i64 2)), (.k (.int .u8 120))], none, none, [], none⟩,⟨(some 13), .build [(.int .i64 0), (.int .i64 0), (.int .i64 0), (.int .i64 0), (.str [])] [(0, 1, (.k (.int .i64 4))), (1, 1, (.k (.int .i64 1))), (2, 1, (.k (.int .i64 3))), (4, 1, (.t 12))], none, none, [], none⟩,⟨(some 14), .icall 12 [(.t 11), (.t 13)], none, none, [], none⟩,⟨(some 3), .alloc [(.int .i64 0), (.str []), (.int .i64 0), (.int .i64 0), (.slc [])], none, none, [], none⟩,⟨none, .store 5 (.t 3) (.t 14), none, none, [], none⟩]
def qd0_3 : AC := .reg qd0l3
def qd0l4 : List AOp := [⟨(some 15), .mv (.t 1), none, none, [], none⟩,⟨(some 16), .build [(.int .i64 0), (.int .i64 0), (.int .i64 0), (.int .i64 0), (.str [])] [(0, 1, (.k (.int .i64 6))), (1, 1, (.k (.int .i64 1))), (2, 1, (.k (.int .i64 4))), (3, 1, (.k (.int .i64 1)))], none, none, [], none⟩,⟨(some 17), .icall 12 [(.t 15), (.t 16)], none, none, [], none⟩,⟨(some 4), .alloc [(.int .i64 0), (.str []), (.int .i64 0), (.int .i64 0), (.slc [])], none, none, [], none⟩,⟨none, .store 5 (.t 4) (.t 17), none, none, [], none⟩]
def qd0_4 : AC := .reg qd0l4
def qd0l5 : List AOp := [⟨(some 18), .mv (.t 1), none, none, [], none⟩,⟨(some 19), .build [(.int .i64 0), (.int .i64 0), (.int .i64 0), (.int .i64 0), (.str [])] [(0, 1, (.k (.int .i64 7))), (1, 1, (.k (.int .i64 1))), (2, 1, (.k (.int .i64 3))), (3, 1, (.k (.int .i64 2)))], none, none, [], none⟩,⟨(some 20), .icall 12 [(.t 18), (.t 19)], none, none, [], none⟩,⟨(some 5), .alloc [(.int .i64 0), (.str []), (.int .i64 0), (.int .i64 0), (.slc [])], none, none, [], none⟩,⟨none, .store 5 (.t 5) (.t 20), none, none, [], none⟩]
def qd0_5 : AC := .reg qd0l5
def qd0l6 : List AOp := [⟨(some 21), .mv (.t 1), none, none, [], none⟩,⟨(some 22), .build [(.int .i64 0), (.int .i64 0), (.int .i64 0), (.int .i64 0), (.str [])] [(0, 1, (.k (.int .i64 9))), (1, 1, (.k (.int .i64 1)))], none, none, [], none⟩,⟨(some 23), .icall 12 [(.t 21), (.t 22)], none, none, [], none⟩,⟨(some 6), .alloc [(.int .i64 0), (.str []), (.int .i64 0), (.int .i64 0), (.slc [])], none, none, [], none⟩,⟨none, .store 5 (.t 6) (.t 23), none, none, [], none⟩]
def qd0_6 : AC := .reg qd0l6
def qd0l7 : List AOp := [⟨(some 24), .faddr 0 (.t 2), none, none, [], none⟩,⟨(some 25), .load none (.t 24), none, none, [], none⟩,⟨(some 26), .bin .eql (.t 25) (.k (.int .i64 0)), none, none, [], none⟩,⟨(some 27), .mv (.t 26), none, none, [], none⟩,⟨(some 28), .faddr 0 (.t 3), (some (27, true)), none, [], none⟩,⟨(some 29), .load none (.t 28), (some (27, true)), none, [], none⟩,⟨(some 30), .bin .eql (.t 29) (.k (.int .i64 0)), (some (27, true)), none, [], none⟩,⟨(some 31), .pick (.t 27) (.t 30) (.k (.bool false)), none, none, [], none⟩,⟨(some 32), .mv (.t 31), none, none, [], none⟩,⟨(some 33), .faddr 0 (.t 4), (some (32, true)), none, [], none⟩,⟨(some 34), .load none (.t 33), (some (32, true)), none, [], none⟩,⟨(some 35), .bin .eql (.t 34) (.k (.int .i64 0)), (some (32, true)), none, [], none⟩,⟨(some 36), .pick (.t 32) (.t 35) (.k (.bool false)), none, none, [], none⟩,⟨(some 37), .mv (.t 36), none, none, [], none⟩,⟨(some 38), .faddr 0 (.t 5), (some (37, true)), none, [], none⟩,⟨(some 39), .load none (.t 38), (some (37, true)), none, [], none⟩,⟨(some 40), .bin .eql (.t 39) (.k (.int .i64 0)), (some (37, true)), none, [], none⟩,⟨(some 41), .pick (.t 37) (.t 40) (.k (.bool false)), none, none, [], none⟩,⟨(some 42), .mv (.t 41), none, none, [], none⟩,⟨(some 43), .faddr 1 (.t 5), (some (42, true)), none, [], none⟩,⟨(some 44), .load none (.t 43), (some (42, true)), none, [], none⟩,⟨(some 45), .call false 14 [(.k (.int .i64 1)), (.k (.int .u8 120))], (some (42, true)), none, [], none⟩,⟨(some 46), .call false 14 [(.k (.int .i64 1)), (.k (.int .u8 0))], (some (42, true)), none, [], none⟩,⟨(some 47), .bin .add (.t 45) (.t 46), (some (42, true)), none, [], none⟩,⟨(some 48), .bin .eql (.t 44) (.t 47), (some (42, true)), none, [], none⟩,⟨(some 49), .pick (.t 42) (.t 48) (.k (.bool false)), none, none, [], none⟩,⟨(some 50), .mv (.t 49), none, none, [], none⟩,⟨(some 51), .faddr 2 (.t 6), (some (50, true)), none, [], none⟩,⟨(some 52), .load none (.t 51), (some (50, true)), none, [], none⟩,⟨(some 53), .bin .eql (.t 52) (.k (.int .i64 10)), (some (50, true)), none, [], none⟩,⟨(some 54), .pick (.t 50) (.t 53) (.k (.bool false)), none, none, [], none⟩,⟨(some 55), .mv (.t 54), none, none, [], none⟩,⟨(some 56), .faddr 3 (.t 6), (some (55, true)), none, [], none⟩,⟨(some 57), .load none (.t 56), (some (55, true)), none, [], none⟩,⟨(some 58), .bin .eql (.t 57) (.k (.int .i64 1)), (some (55, true)), none, [], none⟩,⟨(some 59), .pick (.t 55) (.t 58) (.k (.bool false)), none, none, [], none⟩,⟨(some 0), .mv (.t 59), none, none, [], none⟩]
def qd0_7 : AC := .dreg 0 qd0l7
def qd0_8 : AC := .seq qd0_7 .ret
def qd0_9 : AC := .seq qd0_6 qd0_8
def qd0_10 : AC := .seq qd0_5 qd0_9
def qd0_11 : AC := .seq qd0_4 qd0_10
def qd0_12 : AC := .seq qd0_3 qd0_11
def qd0_13 : AC := .seq qd0_2 qd0_12
def qd0_14 : AC := .seq qd0_1 qd0_13
def qd0_15 : AC := .seq qd0_0 qd0_14
def ac_law17_awake : AC := qd0_15
theorem comp_law17_awake : compF Try.prog [1000010, 1000012] (drawR Try.prog [1000010, 1000012] Try.f11.ntmps) [] 0 Try.f11 = some (ac_law17_awake, [.t 0]) := by kernel_rfl
def U_law17_awake := (And.intro (And.intro (And.intro (And.intro (And.intro @ac_law17_awake.eq_1 (@mR _ _ qd0_0.eq_1)) (And.intro (@mR _ _ qd0_1.eq_1) (@mR _ _ qd0_2.eq_1))) (And.intro (And.intro (@mR _ _ qd0_3.eq_1) (@mR _ _ qd0_4.eq_1)) (@mR _ _ qd0_5.eq_1))) (And.intro (And.intro (And.intro (@mR _ _ qd0_6.eq_1) (@mD _ _ _ qd0_7.eq_1)) (@mU _ _ qd0_8.eq_1)) (And.intro (And.intro (@mU _ _ qd0_9.eq_1) (@mU _ _ qd0_10.eq_1)) (@mU _ _ qd0_11.eq_1)))) (And.intro (And.intro (And.intro (And.intro (@mU _ _ qd0_12.eq_1) (@mU _ _ qd0_13.eq_1)) (@mU _ _ qd0_14.eq_1)) (And.intro (And.intro (@mU _ _ qd0_15.eq_1) @qd0l0.eq_1) @qd0l1.eq_1)) (And.intro (And.intro (And.intro @qd0l2.eq_1 @qd0l3.eq_1) @qd0l4.eq_1) (And.intro (And.intro @qd0l5.eq_1 @qd0l6.eq_1) @qd0l7.eq_1))))

/- scoria/scorialaw17.small -/
def qd1l0 : List AOp := [⟨(some 1), .box (.t 0), none, none, [], none⟩,⟨(some 2), .mv (.k (.bool false)), none, none, [], none⟩]
def qd1_0 : AC := .reg qd1l0
def qd1l1 : List AOp := [⟨(some 3), .faddr 4 (.t 1), none, none, [], none⟩,⟨(some 4), .load none (.t 3), none, none, [], none⟩,⟨(some 5), .lens (.t 4), none, none, [], none⟩,⟨(some 6), .bin .leq (.t 5) (.k (.int .i64 1000)), none, none, [], none⟩,⟨(some 2), .mv (.t 6), none, none, [], none⟩]
def qd1_1 : AC := .reg qd1l1
def qd1_2 : AC := .seq qd1_1 .ret
def qd1_3 : AC := .seq qd1_0 qd1_2
def ac_law17_small : AC := qd1_3
theorem comp_law17_small : compF Try.prog [] (drawR Try.prog [] Try.f13.ntmps) [] 1 Try.f13 = some (ac_law17_small, [.t 2]) := by kernel_rfl
def U_law17_small := (And.intro (And.intro (And.intro @ac_law17_small.eq_1 (@mR _ _ qd1_0.eq_1)) (And.intro (@mR _ _ qd1_1.eq_1) (@mU _ _ qd1_2.eq_1))) (And.intro (And.intro (@mU _ _ qd1_3.eq_1) @qd1l0.eq_1) @qd1l1.eq_1))

/- scoria/scorialaw17.Text -/
def qd2l0 : List AOp := [⟨(some 4), .mv (.k (.str [])), none, none, [], none⟩]
def qd2_0 : AC := .reg qd2l0
def qd2l1 : List AOp := [⟨(some 5), .nilown 1, none, none, [], none⟩]
def qd2_1 : AC := .reg qd2l1
def qd2l2 : List AOp := [⟨(some 6), .mv (.k (.int .i64 0)), none, none, [], none⟩]
def qd2_2 : AC := .reg qd2l2
def qd2l3 : List AOp := [⟨(some 7), .mv (.t 6), none, none, [], none⟩,⟨(some 8), .mv (.t 0), none, none, [], none⟩,⟨(some 9), .bin .mul (.t 8) (.k (.int .i64 32)), none, none, [], none⟩,⟨(some 10), .bin .lss (.t 7) (.t 9), none, none, [], none⟩]
def qd2_3 : AC := .reg qd2l3
def qd2_4 : AC := .cond (.t 10) .skip (.exit 0)
def qd2_5 : AC := .seq qd2_3 qd2_4
def qd2l6 : List AOp := [⟨(some 13), .mv (.t 5), none, none, [], none⟩,⟨(some 14), .mv (.t 1), none, none, [], none⟩,⟨(some 15), .blds false [(.int .u8 0)] 1 [(0, (.t 14))], none, none, [], none⟩,⟨(some 16), .app 1 1 [(.int .u8 0)] (.t 13) (.t 15), none, none, [], none⟩,⟨(some 5), .mv (.t 16), none, none, [], none⟩]
def qd2_6 : AC := .reg qd2l6
def qd2_7 : AC := .block 1 qd2_6
def qd2l8 : List AOp := [⟨(some 11), .mv (.t 6), none, none, [], none⟩,⟨(some 12), .bin .add (.t 11) (.k (.int .i64 1)), none, none, [], none⟩,⟨(some 6), .mv (.t 12), none, none, [], none⟩]
def qd2_8 : AC := .reg qd2l8
def qd2_9 : AC := .seq qd2_7 qd2_8
def qd2_10 : AC := .seq qd2_5 qd2_9
def qd2_11 : AC := .loop [0, 1, 5, 6] 1 qd2_10
def qd2_12 : AC := .block 0 qd2_11
def qd2_13 : AC := .seq qd2_2 qd2_12
def qd2l14 : List AOp := [⟨(some 17), .mv (.t 5), none, none, [], none⟩,⟨(some 18), .b2s (.t 17), none, none, [], none⟩,⟨(some 4), .mv (.t 18), none, none, [], none⟩]
def qd2_14 : AC := .reg qd2l14
def qd2_15 : AC := .seq qd2_14 .ret
def qd2_16 : AC := .seq qd2_13 qd2_15
def qd2_17 : AC := .seq qd2_1 qd2_16
def qd2_18 : AC := .seq qd2_0 qd2_17
def ac_law17_Text : AC := qd2_18
theorem comp_law17_Text : compF Try.prog [5] (drawR Try.prog [5] Try.f14.ntmps) [([0, 1, 5, 6], 1)] 2 Try.f14 = some (ac_law17_Text, [.t 4]) := by kernel_rfl
def U_law17_Text := (And.intro (And.intro (And.intro (And.intro (And.intro @ac_law17_Text.eq_1 (@mR _ _ qd2_0.eq_1)) (And.intro (@mR _ _ qd2_1.eq_1) (@mR _ _ qd2_2.eq_1))) (And.intro (And.intro (@mR _ _ qd2_3.eq_1) (@mU _ _ qd2_4.eq_1)) (@mU _ _ qd2_5.eq_1))) (And.intro (And.intro (And.intro (@mR _ _ qd2_6.eq_1) (@mU _ _ qd2_7.eq_1)) (And.intro (@mR _ _ qd2_8.eq_1) (@mU _ _ qd2_9.eq_1))) (And.intro (And.intro (@mU _ _ qd2_10.eq_1) (@mU _ _ qd2_11.eq_1)) (@mU _ _ qd2_12.eq_1)))) (And.intro (And.intro (And.intro (And.intro (@mU _ _ qd2_13.eq_1) (@mR _ _ qd2_14.eq_1)) (And.intro (@mU _ _ qd2_15.eq_1) (@mU _ _ qd2_16.eq_1))) (And.intro (And.intro (@mU _ _ qd2_17.eq_1) (@mU _ _ qd2_18.eq_1)) @qd2l0.eq_1)) (And.intro (And.intro (And.intro @qd2l1.eq_1 @qd2l2.eq_1) @qd2l3.eq_1) (And.intro (And.intro @qd2l6.eq_1 @qd2l8.eq_1) @qd2l14.eq_1))))

end Go.Proofs.Ythjnfjgejdlbfaa.Aw
