/-
  The functions of the seat, translated to abstract code. Written by a program (wip/Gen2.lean).
-/
import Derived.Test.YtklniadgdbjcpaaAwBun
import Derived.Test.YtklniadgdbjcpaaProg
set_option maxRecDepth 100000
set_option linter.all false
namespace Go.Proofs.Ytklniadgdbjcpaa.Aw
open Go.RowKit
/- scoria/scorialaw12.awake -/
def l_law12_awake_0 : List AOp := [⟨(some 0), .mv (.k (.bool false)), none, none, [], none⟩]
def ac_law12_awake_0 : AC := .reg l_law12_awake_0
def l_law12_awake_1 : List AOp := [⟨(some 4), .build [(.int .i64 0), (.int .i64 0), (.int .i64 0), (.int .i64 0)] [(0, 1, (.k (.int .i64 3))), (1, 1, (.k (.int .i64 100))), (2, 1, (.k (.int .i64 258))), (3, 1, (.k (.int .i64 2)))], none, none, [], none⟩,
  ⟨(some 5), .blds false [(.int .i64 0), (.int .i64 0), (.int .i64 0), (.int .i64 0)] 1 [(0, (.t 4))], none, none, [], none⟩,
  ⟨(some 6), .call false 10 [(.k (.int .i64 7)), (.t 5)], none, none, [], none⟩,
  ⟨(some 3), .mv (.t 6), none, none, [], none⟩,
  ⟨(some 7), .ext 0 (.t 3), none, none, [], none⟩,
  ⟨(some 8), .ext 1 (.t 3), none, none, [], none⟩,
  ⟨(some 1), .mv (.t 7), none, none, [], none⟩,
  ⟨(some 2), .mv (.t 8), none, none, [], none⟩]
def ac_law12_awake_1 : AC := .reg l_law12_awake_1
def l_law12_awake_2 : List AOp := [⟨(some 9), .mv (.t 1), none, none, [], none⟩,
  ⟨(some 10), .bin .eql (.t 9) (.k (.str [7, 0, 0, 0, 0, 1, 3, 0, 100, 0, 0, 0, 2, 1, 2])), none, none, [], none⟩,
  ⟨(some 11), .mv (.t 10), none, none, [], none⟩,
  ⟨(some 12), .mv (.t 2), (some (11, true)), none, [], none⟩,
  ⟨(some 13), .bin .eql (.t 12) (.k (.int .i64 0)), (some (11, true)), none, [], none⟩,
  ⟨(some 14), .pick (.t 11) (.t 13) (.k (.bool false)), none, none, [], none⟩,
  ⟨(some 0), .mv (.t 14), none, none, [], none⟩]
def ac_law12_awake_2 : AC := .reg l_law12_awake_2
def ac_law12_awake_3 : AC := .seq ac_law12_awake_2 .ret
def ac_law12_awake_4 : AC := .seq ac_law12_awake_1 ac_law12_awake_3
def ac_law12_awake_5 : AC := .seq ac_law12_awake_0 ac_law12_awake_4
def ac_law12_awake : AC := ac_law12_awake_5
theorem comp_law12_awake : compF Try.prog [] (drawR Try.prog [] Try.f9.ntmps) [] 0 Try.f9 = some (ac_law12_awake, [.t 0]) := by kernel_rfl
def U_law12_awake := (And.intro (And.intro (And.intro (And.intro @ac_law12_awake.eq_1 (@mR _ _ ac_law12_awake_0.eq_1)) (@mR _ _ ac_law12_awake_1.eq_1)) (And.intro (@mR _ _ ac_law12_awake_2.eq_1) (@mU _ _ ac_law12_awake_3.eq_1))) (And.intro (And.intro (And.intro (@mU _ _ ac_law12_awake_4.eq_1) (@mU _ _ ac_law12_awake_5.eq_1)) @l_law12_awake_0.eq_1) (And.intro @l_law12_awake_1.eq_1 @l_law12_awake_2.eq_1)))

/- scoria/root.Write -/
def l_root_Write_0 : List AOp := [⟨(some 4), .mv (.k (.str [])), none, none, [], none⟩,
  ⟨(some 5), .mv (.k (.int .i64 0)), none, none, [], none⟩]
def ac_root_Write_0 : AC := .reg l_root_Write_0
def l_root_Write_1 : List AOp := [⟨(some 11), .mv (.t 0), none, none, [], none⟩,
  ⟨(some 12), .mv (.t 1), none, none, [], none⟩,
  ⟨(some 13), .call false 19 [(.t 11), (.t 12)], none, none, [], none⟩,
  ⟨(some 14), .un .not (.t 13), none, none, [], none⟩]
def ac_root_Write_1 : AC := .reg l_root_Write_1
def l_root_Write_2 : List AOp := [⟨(some 4), .mv (.k (.str [])), none, none, [], none⟩,
  ⟨(some 5), .mv (.k (.int .i64 1)), none, none, [], none⟩]
def ac_root_Write_2 : AC := .reg l_root_Write_2
def ac_root_Write_3 : AC := .seq ac_root_Write_2 .ret
def ac_root_Write_4 : AC := .cond (.t 14) ac_root_Write_3 .skip
def ac_root_Write_5 : AC := .seq ac_root_Write_1 ac_root_Write_4
def l_root_Write_6 : List AOp := [⟨(some 16), .mv (.t 0), none, none, [], none⟩,
  ⟨(some 17), .conv .u64 (.t 16), none, none, [], none⟩,
  ⟨(some 18), .mv (.t 1), none, none, [], none⟩,
  ⟨(some 19), .len (.t 18), none, none, [], none⟩,
  ⟨(some 20), .conv .u64 (.t 19), none, none, [], none⟩,
  ⟨(some 21), .blds false [(.int .u64 0)] 2 [(0, (.t 17)), (1, (.t 20))], none, none, [], none⟩,
  ⟨(some 22), .call false 21 [], none, none, [], none⟩,
  ⟨(some 23), .call false 20 [(.t 21), (.t 22)], none, none, [], none⟩,
  ⟨(some 15), .mv (.t 23), none, none, [], none⟩,
  ⟨(some 24), .ext 0 (.t 15), none, none, [], none⟩,
  ⟨(some 25), .ext 1 (.t 15), none, none, [], none⟩,
  ⟨(some 6), .mv (.t 24), none, none, [], none⟩,
  ⟨(some 7), .mv (.t 25), none, none, [], none⟩]
def ac_root_Write_6 : AC := .reg l_root_Write_6
def l_root_Write_7 : List AOp := [⟨(some 26), .mv (.t 1), none, none, [], none⟩,
  ⟨(some 27), .len (.t 26), none, none, [], none⟩,
  ⟨(some 28), .mv (.k (.int .i64 0)), none, none, [], none⟩]
def ac_root_Write_7 : AC := .reg l_root_Write_7
def l_root_Write_8 : List AOp := [⟨(some 29), .bin .lss (.t 28) (.t 27), none, none, [], none⟩]
def ac_root_Write_8 : AC := .reg l_root_Write_8
def ac_root_Write_9 : AC := .cond (.t 29) .skip (.exit 0)
def l_root_Write_10 : List AOp := [⟨(some 30), .isl 4 (.t 26) (.t 28), none, none, [], none⟩,
  ⟨(some 31), .load (some 4) (.t 30), none, none, [], none⟩,
  ⟨(some 9), .alloc [(.int .i64 0), (.int .i64 0), (.int .i64 0), (.int .i64 0)], none, none, [], none⟩,
  ⟨none, .store 4 (.t 9) (.t 31), none, none, [], none⟩]
def ac_root_Write_10 : AC := .reg l_root_Write_10
def l_root_Write_11 : List AOp := [⟨(some 32), .mv (.t 7), none, none, [], none⟩,
  ⟨(some 33), .bin .neq (.t 32) (.k (.int .i64 0)), none, none, [], none⟩]
def ac_root_Write_11 : AC := .reg l_root_Write_11
def l_root_Write_12 : List AOp := [⟨(some 34), .mv (.t 7), none, none, [], none⟩,
  ⟨(some 4), .mv (.k (.str [])), none, none, [], none⟩,
  ⟨(some 5), .mv (.t 34), none, none, [], none⟩]
def ac_root_Write_12 : AC := .reg l_root_Write_12
def ac_root_Write_13 : AC := .seq ac_root_Write_12 .ret
def ac_root_Write_14 : AC := .cond (.t 33) ac_root_Write_13 .skip
def ac_root_Write_15 : AC := .seq ac_root_Write_11 ac_root_Write_14
def l_root_Write_16 : List AOp := [⟨(some 10), .mv (.k (.str [])), none, none, [], none⟩]
def ac_root_Write_16 : AC := .reg l_root_Write_16
def l_root_Write_17 : List AOp := [⟨(some 36), .faddr 0 (.t 9), none, none, [], none⟩,
  ⟨(some 37), .load none (.t 36), none, none, [], none⟩,
  ⟨(some 38), .conv .u64 (.t 37), none, none, [], none⟩,
  ⟨(some 39), .faddr 1 (.t 9), none, none, [], none⟩,
  ⟨(some 40), .load none (.t 39), none, none, [], none⟩,
  ⟨(some 41), .conv .u64 (.t 40), none, none, [], none⟩,
  ⟨(some 42), .faddr 2 (.t 9), none, none, [], none⟩,
  ⟨(some 43), .load none (.t 42), none, none, [], none⟩,
  ⟨(some 44), .mm true [(.t 43), (.k (.int .i64 0))], none, none, [], none⟩,
  ⟨(some 45), .conv .u64 (.t 44), none, none, [], none⟩,
  ⟨(some 46), .faddr 3 (.t 9), none, none, [], none⟩,
  ⟨(some 47), .load none (.t 46), none, none, [], none⟩,
  ⟨(some 48), .conv .u64 (.t 47), none, none, [], none⟩,
  ⟨(some 49), .blds false [(.int .u64 0)] 4 [(0, (.t 38)), (1, (.t 41)), (2, (.t 45)), (3, (.t 48))], none, none, [], none⟩,
  ⟨(some 50), .call false 22 [], none, none, [], none⟩,
  ⟨(some 51), .call false 20 [(.t 49), (.t 50)], none, none, [], none⟩,
  ⟨(some 35), .mv (.t 51), none, none, [], none⟩,
  ⟨(some 52), .ext 0 (.t 35), none, none, [], none⟩,
  ⟨(some 53), .ext 1 (.t 35), none, none, [], none⟩,
  ⟨(some 10), .mv (.t 52), none, none, [], none⟩,
  ⟨(some 7), .mv (.t 53), none, none, [], none⟩]
def ac_root_Write_17 : AC := .dreg 0 l_root_Write_17
def l_root_Write_18 : List AOp := [⟨(some 54), .mv (.t 6), none, none, [], none⟩,
  ⟨(some 55), .mv (.t 10), none, none, [], none⟩,
  ⟨(some 56), .bin .add (.t 54) (.t 55), none, none, [], none⟩,
  ⟨(some 6), .mv (.t 56), none, none, [], none⟩]
def ac_root_Write_18 : AC := .reg l_root_Write_18
def ac_root_Write_19 : AC := .seq ac_root_Write_17 ac_root_Write_18
def ac_root_Write_20 : AC := .seq ac_root_Write_16 ac_root_Write_19
def ac_root_Write_21 : AC := .seq ac_root_Write_15 ac_root_Write_20
def ac_root_Write_22 : AC := .seq ac_root_Write_10 ac_root_Write_21
def ac_root_Write_23 : AC := .block 1 ac_root_Write_22
def l_root_Write_24 : List AOp := [⟨(some 57), .bin .add (.t 28) (.k (.int .i64 1)), none, none, [], none⟩,
  ⟨(some 28), .mv (.t 57), none, none, [], none⟩]
def ac_root_Write_24 : AC := .reg l_root_Write_24
def ac_root_Write_25 : AC := .seq ac_root_Write_23 ac_root_Write_24
def ac_root_Write_26 : AC := .seq ac_root_Write_9 ac_root_Write_25
def ac_root_Write_27 : AC := .seq ac_root_Write_8 ac_root_Write_26
def ac_root_Write_28 : AC := .loop [6, 7, 26, 27, 28] 0 ac_root_Write_27
def ac_root_Write_29 : AC := .block 0 ac_root_Write_28
def ac_root_Write_30 : AC := .seq ac_root_Write_7 ac_root_Write_29
def l_root_Write_31 : List AOp := [⟨(some 58), .mv (.t 6), none, none, [], none⟩,
  ⟨(some 59), .mv (.t 7), none, none, [], none⟩,
  ⟨(some 4), .mv (.t 58), none, none, [], none⟩,
  ⟨(some 5), .mv (.t 59), none, none, [], none⟩]
def ac_root_Write_31 : AC := .reg l_root_Write_31
def ac_root_Write_32 : AC := .seq ac_root_Write_31 .ret
def ac_root_Write_33 : AC := .seq ac_root_Write_30 ac_root_Write_32
def ac_root_Write_34 : AC := .seq ac_root_Write_6 ac_root_Write_33
def ac_root_Write_35 : AC := .seq ac_root_Write_5 ac_root_Write_34
def ac_root_Write_36 : AC := .seq ac_root_Write_0 ac_root_Write_35
def ac_root_Write : AC := ac_root_Write_36
theorem comp_root_Write : compF Try.prog [] (drawR Try.prog [] Try.f10.ntmps) [([6, 7, 26, 27, 28], 0)] 2 Try.f10 = some (ac_root_Write, [.t 4, .t 5]) := by kernel_rfl
def U_root_Write := (And.intro (And.intro (And.intro (And.intro (And.intro (And.intro @ac_root_Write.eq_1 (@mR _ _ ac_root_Write_0.eq_1)) (And.intro (@mR _ _ ac_root_Write_1.eq_1) (@mR _ _ ac_root_Write_2.eq_1))) (And.intro (And.intro (@mU _ _ ac_root_Write_3.eq_1) (@mU _ _ ac_root_Write_4.eq_1)) (@mU _ _ ac_root_Write_5.eq_1))) (And.intro (And.intro (And.intro (@mR _ _ ac_root_Write_6.eq_1) (@mR _ _ ac_root_Write_7.eq_1)) (@mR _ _ ac_root_Write_8.eq_1)) (And.intro (And.intro (@mU _ _ ac_root_Write_9.eq_1) (@mR _ _ ac_root_Write_10.eq_1)) (@mR _ _ ac_root_Write_11.eq_1)))) (And.intro (And.intro (And.intro (And.intro (@mR _ _ ac_root_Write_12.eq_1) (@mU _ _ ac_root_Write_13.eq_1)) (And.intro (@mU _ _ ac_root_Write_14.eq_1) (@mU _ _ ac_root_Write_15.eq_1))) (And.intro (And.intro (@mR _ _ ac_root_Write_16.eq_1) (@mD _ _ _ ac_root_Write_17.eq_1)) (@mR _ _ ac_root_Write_18.eq_1))) (And.intro (And.intro (And.intro (@mU _ _ ac_root_Write_19.eq_1) (@mU _ _ ac_root_Write_20.eq_1)) (@mU _ _ ac_root_Write_21.eq_1)) (And.intro (And.intro (@mU _ _ ac_root_Write_22.eq_1) (@mU _ _ ac_root_Write_23.eq_1)) (@mR _ _ ac_root_Write_24.eq_1))))) (And.intro (And.intro (And.intro (And.intro (And.intro (@mU _ _ ac_root_Write_25.eq_1) (@mU _ _ ac_root_Write_26.eq_1)) (And.intro (@mU _ _ ac_root_Write_27.eq_1) (@mU _ _ ac_root_Write_28.eq_1))) (And.intro (And.intro (@mU _ _ ac_root_Write_29.eq_1) (@mU _ _ ac_root_Write_30.eq_1)) (@mR _ _ ac_root_Write_31.eq_1))) (And.intro (And.intro (And.intro (@mU _ _ ac_root_Write_32.eq_1) (@mU _ _ ac_root_Write_33.eq_1)) (@mU _ _ ac_root_Write_34.eq_1)) (And.intro (And.intro (@mU _ _ ac_root_Write_35.eq_1) (@mU _ _ ac_root_Write_36.eq_1)) @l_root_Write_0.eq_1))) (And.intro (And.intro (And.intro (And.intro @l_root_Write_1.eq_1 @l_root_Write_2.eq_1) (And.intro @l_root_Write_6.eq_1 @l_root_Write_7.eq_1)) (And.intro (And.intro @l_root_Write_8.eq_1 @l_root_Write_10.eq_1) @l_root_Write_11.eq_1)) (And.intro (And.intro (And.intro @l_root_Write_12.eq_1 @l_root_Write_16.eq_1) @l_root_Write_17.eq_1) (And.intro (And.intro @l_root_Write_18.eq_1 @l_root_Write_24.eq_1) @l_root_Write_31.eq_1)))))

/- scoria/scoriaref12.Write -/
def l_ref12_Write_0 : List AOp := [⟨(some 4), .mv (.k (.str [])), none, none, [], none⟩,
  ⟨(some 5), .mv (.k (.int .i64 0)), none, none, [], none⟩]
def ac_ref12_Write_0 : AC := .reg l_ref12_Write_0
def l_ref12_Write_1 : List AOp := [⟨(some 9), .mv (.t 0), none, none, [], none⟩,
  ⟨(some 10), .mv (.t 1), none, none, [], none⟩,
  ⟨(some 11), .call false 23 [(.t 9), (.t 10)], none, none, [], none⟩,
  ⟨(some 12), .un .not (.t 11), none, none, [], none⟩]
def ac_ref12_Write_1 : AC := .reg l_ref12_Write_1
def l_ref12_Write_2 : List AOp := [⟨(some 4), .mv (.k (.str [])), none, none, [], none⟩,
  ⟨(some 5), .mv (.k (.int .i64 1)), none, none, [], none⟩]
def ac_ref12_Write_2 : AC := .reg l_ref12_Write_2
def ac_ref12_Write_3 : AC := .seq ac_ref12_Write_2 .ret
def ac_ref12_Write_4 : AC := .cond (.t 12) ac_ref12_Write_3 .skip
def ac_ref12_Write_5 : AC := .seq ac_ref12_Write_1 ac_ref12_Write_4
def l_ref12_Write_6 : List AOp := [⟨(some 13), .mv (.t 0), none, none, [], none⟩,
  ⟨(some 14), .call false 24 [(.t 13), (.k (.int .i64 5))], none, none, [], none⟩,
  ⟨(some 15), .mv (.t 1), none, none, [], none⟩,
  ⟨(some 16), .len (.t 15), none, none, [], none⟩,
  ⟨(some 17), .call false 24 [(.t 16), (.k (.int .i64 1))], none, none, [], none⟩,
  ⟨(some 18), .bin .add (.t 14) (.t 17), none, none, [], none⟩,
  ⟨(some 6), .mv (.t 18), none, none, [], none⟩]
def ac_ref12_Write_6 : AC := .reg l_ref12_Write_6
def l_ref12_Write_7 : List AOp := [⟨(some 7), .mv (.k (.int .i64 0)), none, none, [], none⟩]
def ac_ref12_Write_7 : AC := .reg l_ref12_Write_7
def l_ref12_Write_8 : List AOp := [⟨(some 19), .mv (.t 7), none, none, [], none⟩,
  ⟨(some 20), .mv (.t 1), none, none, [], none⟩,
  ⟨(some 21), .len (.t 20), none, none, [], none⟩,
  ⟨(some 22), .bin .lss (.t 19) (.t 21), none, none, [], none⟩]
def ac_ref12_Write_8 : AC := .reg l_ref12_Write_8
def ac_ref12_Write_9 : AC := .cond (.t 22) .skip (.exit 0)
def ac_ref12_Write_10 : AC := .seq ac_ref12_Write_8 ac_ref12_Write_9
def l_ref12_Write_11 : List AOp := [⟨(some 25), .mv (.t 1), none, none, [], none⟩,
  ⟨(some 26), .mv (.t 7), none, none, [], none⟩,
  ⟨(some 27), .isl 4 (.t 25) (.t 26), none, none, [], none⟩,
  ⟨(some 28), .faddr 2 (.t 27), none, none, [], none⟩,
  ⟨(some 29), .load none (.t 28), none, none, [], none⟩,
  ⟨(some 8), .mv (.t 29), none, none, [], none⟩]
def ac_ref12_Write_11 : AC := .reg l_ref12_Write_11
def l_ref12_Write_12 : List AOp := [⟨(some 30), .mv (.t 8), none, none, [], none⟩,
  ⟨(some 31), .bin .lss (.t 30) (.k (.int .i64 0)), none, none, [], none⟩]
def ac_ref12_Write_12 : AC := .reg l_ref12_Write_12
def l_ref12_Write_13 : List AOp := [⟨(some 8), .mv (.k (.int .i64 0)), none, none, [], none⟩]
def ac_ref12_Write_13 : AC := .reg l_ref12_Write_13
def ac_ref12_Write_14 : AC := .cond (.t 31) ac_ref12_Write_13 .skip
def ac_ref12_Write_15 : AC := .seq ac_ref12_Write_12 ac_ref12_Write_14
def l_ref12_Write_16 : List AOp := [⟨(some 32), .mv (.t 6), none, none, [], none⟩,
  ⟨(some 33), .mv (.t 1), none, none, [], none⟩,
  ⟨(some 34), .mv (.t 7), none, none, [], none⟩,
  ⟨(some 35), .isl 4 (.t 33) (.t 34), none, none, [], none⟩,
  ⟨(some 36), .faddr 0 (.t 35), none, none, [], none⟩,
  ⟨(some 37), .load none (.t 36), none, none, [], none⟩,
  ⟨(some 38), .call false 24 [(.t 37), (.k (.int .i64 2))], none, none, [], none⟩,
  ⟨(some 39), .bin .add (.t 32) (.t 38), none, none, [], none⟩,
  ⟨(some 40), .mv (.t 1), none, none, [], none⟩,
  ⟨(some 41), .mv (.t 7), none, none, [], none⟩,
  ⟨(some 42), .isl 4 (.t 40) (.t 41), none, none, [], none⟩,
  ⟨(some 43), .faddr 1 (.t 42), none, none, [], none⟩,
  ⟨(some 44), .load none (.t 43), none, none, [], none⟩,
  ⟨(some 45), .call false 24 [(.t 44), (.k (.int .i64 4))], none, none, [], none⟩,
  ⟨(some 46), .bin .add (.t 39) (.t 45), none, none, [], none⟩,
  ⟨(some 47), .mv (.t 8), none, none, [], none⟩,
  ⟨(some 48), .call false 24 [(.t 47), (.k (.int .i64 2))], none, none, [], none⟩,
  ⟨(some 49), .bin .add (.t 46) (.t 48), none, none, [], none⟩,
  ⟨(some 50), .mv (.t 1), none, none, [], none⟩,
  ⟨(some 51), .mv (.t 7), none, none, [], none⟩,
  ⟨(some 52), .isl 4 (.t 50) (.t 51), none, none, [], none⟩,
  ⟨(some 53), .faddr 3 (.t 52), none, none, [], none⟩,
  ⟨(some 54), .load none (.t 53), none, none, [], none⟩,
  ⟨(some 55), .call false 24 [(.t 54), (.k (.int .i64 1))], none, none, [], none⟩,
  ⟨(some 56), .bin .add (.t 49) (.t 55), none, none, [], none⟩,
  ⟨(some 6), .mv (.t 56), none, none, [], none⟩]
def ac_ref12_Write_16 : AC := .dreg 0 l_ref12_Write_16
def ac_ref12_Write_17 : AC := .seq ac_ref12_Write_15 ac_ref12_Write_16
def ac_ref12_Write_18 : AC := .seq ac_ref12_Write_11 ac_ref12_Write_17
def ac_ref12_Write_19 : AC := .block 1 ac_ref12_Write_18
def l_ref12_Write_20 : List AOp := [⟨(some 23), .mv (.t 7), none, none, [], none⟩,
  ⟨(some 24), .bin .add (.t 23) (.k (.int .i64 1)), none, none, [], none⟩,
  ⟨(some 7), .mv (.t 24), none, none, [], none⟩]
def ac_ref12_Write_20 : AC := .reg l_ref12_Write_20
def ac_ref12_Write_21 : AC := .seq ac_ref12_Write_19 ac_ref12_Write_20
def ac_ref12_Write_22 : AC := .seq ac_ref12_Write_10 ac_ref12_Write_21
def ac_ref12_Write_23 : AC := .loop [1, 6, 7] 0 ac_ref12_Write_22
def ac_ref12_Write_24 : AC := .block 0 ac_ref12_Write_23
def ac_ref12_Write_25 : AC := .seq ac_ref12_Write_7 ac_ref12_Write_24
def l_ref12_Write_26 : List AOp := [⟨(some 57), .mv (.t 6), none, none, [], none⟩,
  ⟨(some 4), .mv (.t 57), none, none, [], none⟩,
  ⟨(some 5), .mv (.k (.int .i64 0)), none, none, [], none⟩]
def ac_ref12_Write_26 : AC := .reg l_ref12_Write_26
def ac_ref12_Write_27 : AC := .seq ac_ref12_Write_26 .ret
def ac_ref12_Write_28 : AC := .seq ac_ref12_Write_25 ac_ref12_Write_27
def ac_ref12_Write_29 : AC := .seq ac_ref12_Write_6 ac_ref12_Write_28
def ac_ref12_Write_30 : AC := .seq ac_ref12_Write_5 ac_ref12_Write_29
def ac_ref12_Write_31 : AC := .seq ac_ref12_Write_0 ac_ref12_Write_30
def ac_ref12_Write : AC := ac_ref12_Write_31
theorem comp_ref12_Write : compF Try.prog [] (drawR Try.prog [] Try.f11.ntmps) [([1, 6, 7], 0)] 2 Try.f11 = some (ac_ref12_Write, [.t 4, .t 5]) := by kernel_rfl
def U_ref12_Write := (And.intro (And.intro (And.intro (And.intro (And.intro (And.intro @ac_ref12_Write.eq_1 (@mR _ _ ac_ref12_Write_0.eq_1)) (@mR _ _ ac_ref12_Write_1.eq_1)) (And.intro (And.intro (@mR _ _ ac_ref12_Write_2.eq_1) (@mU _ _ ac_ref12_Write_3.eq_1)) (@mU _ _ ac_ref12_Write_4.eq_1))) (And.intro (And.intro (And.intro (@mU _ _ ac_ref12_Write_5.eq_1) (@mR _ _ ac_ref12_Write_6.eq_1)) (@mR _ _ ac_ref12_Write_7.eq_1)) (And.intro (And.intro (@mR _ _ ac_ref12_Write_8.eq_1) (@mU _ _ ac_ref12_Write_9.eq_1)) (@mU _ _ ac_ref12_Write_10.eq_1)))) (And.intro (And.intro (And.intro (And.intro (@mR _ _ ac_ref12_Write_11.eq_1) (@mR _ _ ac_ref12_Write_12.eq_1)) (@mR _ _ ac_ref12_Write_13.eq_1)) (And.intro (And.intro (@mU _ _ ac_ref12_Write_14.eq_1) (@mU _ _ ac_ref12_Write_15.eq_1)) (@mD _ _ _ ac_ref12_Write_16.eq_1))) (And.intro (And.intro (And.intro (@mU _ _ ac_ref12_Write_17.eq_1) (@mU _ _ ac_ref12_Write_18.eq_1)) (@mU _ _ ac_ref12_Write_19.eq_1)) (And.intro (@mR _ _ ac_ref12_Write_20.eq_1) (@mU _ _ ac_ref12_Write_21.eq_1))))) (And.intro (And.intro (And.intro (And.intro (And.intro (@mU _ _ ac_ref12_Write_22.eq_1) (@mU _ _ ac_ref12_Write_23.eq_1)) (@mU _ _ ac_ref12_Write_24.eq_1)) (And.intro (And.intro (@mU _ _ ac_ref12_Write_25.eq_1) (@mR _ _ ac_ref12_Write_26.eq_1)) (@mU _ _ ac_ref12_Write_27.eq_1))) (And.intro (And.intro (And.intro (@mU _ _ ac_ref12_Write_28.eq_1) (@mU _ _ ac_ref12_Write_29.eq_1)) (@mU _ _ ac_ref12_Write_30.eq_1)) (And.intro (@mU _ _ ac_ref12_Write_31.eq_1) @l_ref12_Write_0.eq_1))) (And.intro (And.intro (And.intro (And.intro @l_ref12_Write_1.eq_1 @l_ref12_Write_2.eq_1) @l_ref12_Write_6.eq_1) (And.intro (And.intro @l_ref12_Write_7.eq_1 @l_ref12_Write_8.eq_1) @l_ref12_Write_11.eq_1)) (And.intro (And.intro (And.intro @l_ref12_Write_12.eq_1 @l_ref12_Write_13.eq_1) @l_ref12_Write_16.eq_1) (And.intro @l_ref12_Write_20.eq_1 @l_ref12_Write_26.eq_1)))))

/- scoria/scorialaw12.refs -/
def l_law12_refs_0 : List AOp := [⟨(some 2), .mv (.k (.slc [])), none, none, [], none⟩]
def ac_law12_refs_0 : AC := .reg l_law12_refs_0
def l_law12_refs_1 : List AOp := [⟨(some 3), .nilown 4, none, none, [], none⟩]
def ac_law12_refs_1 : AC := .reg l_law12_refs_1
def l_law12_refs_2 : List AOp := [⟨(some 4), .mv (.k (.int .i64 0)), none, none, [], none⟩]
def ac_law12_refs_2 : AC := .reg l_law12_refs_2
def l_law12_refs_3 : List AOp := [⟨(some 5), .mv (.t 4), none, none, [], none⟩,
  ⟨(some 6), .mv (.t 0), none, none, [], none⟩,
  ⟨(some 7), .len (.t 6), none, none, [], none⟩,
  ⟨(some 8), .bin .lss (.t 5) (.t 7), none, none, [], none⟩]
def ac_law12_refs_3 : AC := .reg l_law12_refs_3
def ac_law12_refs_4 : AC := .cond (.t 8) .skip (.exit 0)
def ac_law12_refs_5 : AC := .seq ac_law12_refs_3 ac_law12_refs_4
def l_law12_refs_6 : List AOp := [⟨(some 11), .mv (.t 3), none, none, [], none⟩,
  ⟨(some 12), .mv (.t 0), none, none, [], none⟩,
  ⟨(some 13), .mv (.t 4), none, none, [], none⟩,
  ⟨(some 14), .isl 4 (.t 12) (.t 13), none, none, [], none⟩,
  ⟨(some 15), .load (some 4) (.t 14), none, none, [], none⟩,
  ⟨(some 16), .blds false [(.int .i64 0), (.int .i64 0), (.int .i64 0), (.int .i64 0)] 1 [(0, (.t 15))], none, none, [], none⟩,
  ⟨(some 17), .app 4 32 [(.int .i64 0), (.int .i64 0), (.int .i64 0), (.int .i64 0)] (.t 11) (.t 16), none, none, [], none⟩,
  ⟨(some 3), .mv (.t 17), none, none, [], none⟩]
def ac_law12_refs_6 : AC := .reg l_law12_refs_6
def ac_law12_refs_7 : AC := .block 1 ac_law12_refs_6
def l_law12_refs_8 : List AOp := [⟨(some 9), .mv (.t 4), none, none, [], none⟩,
  ⟨(some 10), .bin .add (.t 9) (.k (.int .i64 1)), none, none, [], none⟩,
  ⟨(some 4), .mv (.t 10), none, none, [], none⟩]
def ac_law12_refs_8 : AC := .reg l_law12_refs_8
def ac_law12_refs_9 : AC := .seq ac_law12_refs_7 ac_law12_refs_8
def ac_law12_refs_10 : AC := .seq ac_law12_refs_5 ac_law12_refs_9
def ac_law12_refs_11 : AC := .loop [0, 3, 4] 1 ac_law12_refs_10
def ac_law12_refs_12 : AC := .block 0 ac_law12_refs_11
def ac_law12_refs_13 : AC := .seq ac_law12_refs_2 ac_law12_refs_12
def l_law12_refs_14 : List AOp := [⟨(some 18), .mv (.t 3), none, none, [], none⟩,
  ⟨(some 2), .mv (.t 18), none, none, [], none⟩]
def ac_law12_refs_14 : AC := .reg l_law12_refs_14
def ac_law12_refs_15 : AC := .seq ac_law12_refs_14 .ret
def ac_law12_refs_16 : AC := .seq ac_law12_refs_13 ac_law12_refs_15
def ac_law12_refs_17 : AC := .seq ac_law12_refs_1 ac_law12_refs_16
def ac_law12_refs_18 : AC := .seq ac_law12_refs_0 ac_law12_refs_17
def ac_law12_refs : AC := ac_law12_refs_18
theorem comp_law12_refs : compF Try.prog [3] (drawR Try.prog [3] Try.f12.ntmps) [([0, 3, 4], 1)] 1 Try.f12 = some (ac_law12_refs, [.t 2]) := by kernel_rfl
def U_law12_refs := (And.intro (And.intro (And.intro (And.intro (And.intro @ac_law12_refs.eq_1 (@mR _ _ ac_law12_refs_0.eq_1)) (And.intro (@mR _ _ ac_law12_refs_1.eq_1) (@mR _ _ ac_law12_refs_2.eq_1))) (And.intro (And.intro (@mR _ _ ac_law12_refs_3.eq_1) (@mU _ _ ac_law12_refs_4.eq_1)) (@mU _ _ ac_law12_refs_5.eq_1))) (And.intro (And.intro (And.intro (@mR _ _ ac_law12_refs_6.eq_1) (@mU _ _ ac_law12_refs_7.eq_1)) (And.intro (@mR _ _ ac_law12_refs_8.eq_1) (@mU _ _ ac_law12_refs_9.eq_1))) (And.intro (And.intro (@mU _ _ ac_law12_refs_10.eq_1) (@mU _ _ ac_law12_refs_11.eq_1)) (@mU _ _ ac_law12_refs_12.eq_1)))) (And.intro (And.intro (And.intro (And.intro (@mU _ _ ac_law12_refs_13.eq_1) (@mR _ _ ac_law12_refs_14.eq_1)) (And.intro (@mU _ _ ac_law12_refs_15.eq_1) (@mU _ _ ac_law12_refs_16.eq_1))) (And.intro (And.intro (@mU _ _ ac_law12_refs_17.eq_1) (@mU _ _ ac_law12_refs_18.eq_1)) @l_law12_refs_0.eq_1)) (And.intro (And.intro (And.intro @l_law12_refs_1.eq_1 @l_law12_refs_2.eq_1) @l_law12_refs_3.eq_1) (And.intro (And.intro @l_law12_refs_6.eq_1 @l_law12_refs_8.eq_1) @l_law12_refs_14.eq_1))))

/- scoria/scoriaref12.Same -/
def l_ref12_Same_0 : List AOp := [⟨(some 4), .mv (.k (.bool false)), none, none, [], none⟩]
def ac_ref12_Same_0 : AC := .reg l_ref12_Same_0
def l_ref12_Same_1 : List AOp := [⟨(some 6), .mv (.t 0), none, none, [], none⟩,
  ⟨(some 7), .len (.t 6), none, none, [], none⟩,
  ⟨(some 8), .mv (.t 1), none, none, [], none⟩,
  ⟨(some 9), .len (.t 8), none, none, [], none⟩,
  ⟨(some 10), .bin .neq (.t 7) (.t 9), none, none, [], none⟩]
def ac_ref12_Same_1 : AC := .reg l_ref12_Same_1
def l_ref12_Same_2 : List AOp := [⟨(some 4), .mv (.k (.bool false)), none, none, [], none⟩]
def ac_ref12_Same_2 : AC := .reg l_ref12_Same_2
def ac_ref12_Same_3 : AC := .seq ac_ref12_Same_2 .ret
def ac_ref12_Same_4 : AC := .cond (.t 10) ac_ref12_Same_3 .skip
def ac_ref12_Same_5 : AC := .seq ac_ref12_Same_1 ac_ref12_Same_4
def l_ref12_Same_6 : List AOp := [⟨(some 5), .mv (.k (.int .i64 0)), none, none, [], none⟩]
def ac_ref12_Same_6 : AC := .reg l_ref12_Same_6
def l_ref12_Same_7 : List AOp := [⟨(some 11), .mv (.t 5), none, none, [], none⟩,
  ⟨(some 12), .mv (.t 0), none, none, [], none⟩,
  ⟨(some 13), .len (.t 12), none, none, [], none⟩,
  ⟨(some 14), .bin .lss (.t 11) (.t 13), none, none, [], none⟩]
def ac_ref12_Same_7 : AC := .reg l_ref12_Same_7
def ac_ref12_Same_8 : AC := .cond (.t 14) .skip (.exit 0)
def ac_ref12_Same_9 : AC := .seq ac_ref12_Same_7 ac_ref12_Same_8
def l_ref12_Same_10 : List AOp := [⟨(some 17), .mv (.t 0), none, none, [], none⟩,
  ⟨(some 18), .mv (.t 5), none, none, [], none⟩,
  ⟨(some 19), .isl 4 (.t 17) (.t 18), none, none, [], none⟩,
  ⟨(some 20), .load (some 4) (.t 19), none, none, [], none⟩,
  ⟨(some 21), .mv (.t 1), none, none, [], none⟩,
  ⟨(some 22), .mv (.t 5), none, none, [], none⟩,
  ⟨(some 23), .isl 4 (.t 21) (.t 22), none, none, [], none⟩,
  ⟨(some 24), .load (some 4) (.t 23), none, none, [], none⟩,
  ⟨(some 25), .eqs true [.i, .i, .i, .i] (.t 20) (.t 24), none, none, [], none⟩]
def ac_ref12_Same_10 : AC := .dreg 0 l_ref12_Same_10
def l_ref12_Same_11 : List AOp := [⟨(some 4), .mv (.k (.bool false)), none, none, [], none⟩]
def ac_ref12_Same_11 : AC := .reg l_ref12_Same_11
def ac_ref12_Same_12 : AC := .seq ac_ref12_Same_11 .ret
def ac_ref12_Same_13 : AC := .cond (.t 25) ac_ref12_Same_12 .skip
def ac_ref12_Same_14 : AC := .seq ac_ref12_Same_10 ac_ref12_Same_13
def ac_ref12_Same_15 : AC := .block 1 ac_ref12_Same_14
def l_ref12_Same_16 : List AOp := [⟨(some 15), .mv (.t 5), none, none, [], none⟩,
  ⟨(some 16), .bin .add (.t 15) (.k (.int .i64 1)), none, none, [], none⟩,
  ⟨(some 5), .mv (.t 16), none, none, [], none⟩]
def ac_ref12_Same_16 : AC := .reg l_ref12_Same_16
def ac_ref12_Same_17 : AC := .seq ac_ref12_Same_15 ac_ref12_Same_16
def ac_ref12_Same_18 : AC := .seq ac_ref12_Same_9 ac_ref12_Same_17
def ac_ref12_Same_19 : AC := .loop [0, 1, 5] 0 ac_ref12_Same_18
def ac_ref12_Same_20 : AC := .block 0 ac_ref12_Same_19
def ac_ref12_Same_21 : AC := .seq ac_ref12_Same_6 ac_ref12_Same_20
def l_ref12_Same_22 : List AOp := [⟨(some 4), .mv (.k (.bool true)), none, none, [], none⟩]
def ac_ref12_Same_22 : AC := .reg l_ref12_Same_22
def ac_ref12_Same_23 : AC := .seq ac_ref12_Same_22 .ret
def ac_ref12_Same_24 : AC := .seq ac_ref12_Same_21 ac_ref12_Same_23
def ac_ref12_Same_25 : AC := .seq ac_ref12_Same_5 ac_ref12_Same_24
def ac_ref12_Same_26 : AC := .seq ac_ref12_Same_0 ac_ref12_Same_25
def ac_ref12_Same : AC := ac_ref12_Same_26
theorem comp_ref12_Same : compF Try.prog [] (drawR Try.prog [] Try.f13.ntmps) [([0, 1, 5], 0)] 2 Try.f13 = some (ac_ref12_Same, [.t 4]) := by kernel_rfl
def U_ref12_Same := (And.intro (And.intro (And.intro (And.intro (And.intro (And.intro @ac_ref12_Same.eq_1 (@mR _ _ ac_ref12_Same_0.eq_1)) (@mR _ _ ac_ref12_Same_1.eq_1)) (And.intro (@mR _ _ ac_ref12_Same_2.eq_1) (@mU _ _ ac_ref12_Same_3.eq_1))) (And.intro (And.intro (And.intro (@mU _ _ ac_ref12_Same_4.eq_1) (@mU _ _ ac_ref12_Same_5.eq_1)) (@mR _ _ ac_ref12_Same_6.eq_1)) (And.intro (@mR _ _ ac_ref12_Same_7.eq_1) (@mU _ _ ac_ref12_Same_8.eq_1)))) (And.intro (And.intro (And.intro (And.intro (@mU _ _ ac_ref12_Same_9.eq_1) (@mD _ _ _ ac_ref12_Same_10.eq_1)) (@mR _ _ ac_ref12_Same_11.eq_1)) (And.intro (@mU _ _ ac_ref12_Same_12.eq_1) (@mU _ _ ac_ref12_Same_13.eq_1))) (And.intro (And.intro (@mU _ _ ac_ref12_Same_14.eq_1) (@mU _ _ ac_ref12_Same_15.eq_1)) (And.intro (@mR _ _ ac_ref12_Same_16.eq_1) (@mU _ _ ac_ref12_Same_17.eq_1))))) (And.intro (And.intro (And.intro (And.intro (And.intro (@mU _ _ ac_ref12_Same_18.eq_1) (@mU _ _ ac_ref12_Same_19.eq_1)) (@mU _ _ ac_ref12_Same_20.eq_1)) (And.intro (@mU _ _ ac_ref12_Same_21.eq_1) (@mR _ _ ac_ref12_Same_22.eq_1))) (And.intro (And.intro (@mU _ _ ac_ref12_Same_23.eq_1) (@mU _ _ ac_ref12_Same_24.eq_1)) (And.intro (@mU _ _ ac_ref12_Same_25.eq_1) (@mU _ _ ac_ref12_Same_26.eq_1)))) (And.intro (And.intro (And.intro (And.intro @l_ref12_Same_0.eq_1 @l_ref12_Same_1.eq_1) @l_ref12_Same_2.eq_1) (And.intro @l_ref12_Same_6.eq_1 @l_ref12_Same_7.eq_1)) (And.intro (And.intro @l_ref12_Same_10.eq_1 @l_ref12_Same_11.eq_1) (And.intro @l_ref12_Same_16.eq_1 @l_ref12_Same_22.eq_1)))))

/- scoria/root.Find -/
def l_root_Find_0 : List AOp := [⟨(some 3), .box (.t 1), none, none, [], none⟩,
  ⟨(some 4), .alloc [(.int .i64 0), (.int .i64 0), (.int .i64 0), (.int .i64 0)], none, none, [], none⟩,
  ⟨(some 5), .mv (.k (.bool false)), none, none, [], none⟩]
def ac_root_Find_0 : AC := .reg l_root_Find_0
def l_root_Find_1 : List AOp := [⟨(some 7), .mv (.t 0), none, none, [], none⟩,
  ⟨(some 8), .mkfn (.func 26) [] [(.t 3)], none, none, [], none⟩,
  ⟨(some 9), .call false 25 [(.t 7), (.t 8)], none, none, [], none⟩,
  ⟨(some 6), .mv (.t 9), none, none, [], none⟩]
def ac_root_Find_1 : AC := .reg l_root_Find_1
def l_root_Find_2 : List AOp := [⟨(some 10), .mv (.t 6), none, none, [], none⟩,
  ⟨(some 11), .bin .lss (.t 10) (.k (.int .i64 0)), none, none, [], none⟩]
def ac_root_Find_2 : AC := .reg l_root_Find_2
def l_root_Find_3 : List AOp := [⟨(some 12), .build [(.int .i64 0), (.int .i64 0), (.int .i64 0), (.int .i64 0)] [], none, none, [], none⟩,
  ⟨none, .store 4 (.t 4) (.t 12), none, none, [], none⟩,
  ⟨(some 5), .mv (.k (.bool false)), none, none, [], none⟩]
def ac_root_Find_3 : AC := .reg l_root_Find_3
def ac_root_Find_4 : AC := .seq ac_root_Find_3 .ret
def ac_root_Find_5 : AC := .cond (.t 11) ac_root_Find_4 .skip
def ac_root_Find_6 : AC := .seq ac_root_Find_2 ac_root_Find_5
def l_root_Find_7 : List AOp := [⟨(some 13), .mv (.t 0), none, none, [], none⟩,
  ⟨(some 14), .mv (.t 6), none, none, [], none⟩,
  ⟨(some 15), .isl 4 (.t 13) (.t 14), none, none, [], none⟩,
  ⟨(some 16), .load (some 4) (.t 15), none, none, [], none⟩,
  ⟨none, .store 4 (.t 4) (.t 16), none, none, [], none⟩,
  ⟨(some 5), .mv (.k (.bool true)), none, none, [], none⟩]
def ac_root_Find_7 : AC := .reg l_root_Find_7
def ac_root_Find_8 : AC := .seq ac_root_Find_7 .ret
def ac_root_Find_9 : AC := .seq ac_root_Find_6 ac_root_Find_8
def ac_root_Find_10 : AC := .seq ac_root_Find_1 ac_root_Find_9
def ac_root_Find_11 : AC := .seq ac_root_Find_0 ac_root_Find_10
def ac_root_Find : AC := ac_root_Find_11
theorem comp_root_Find : compF Try.prog [] (drawR Try.prog [] Try.f14.ntmps) [] 2 Try.f14 = some (ac_root_Find, [.c 4 (some 4), .t 5]) := by kernel_rfl
def U_root_Find := (And.intro (And.intro (And.intro (And.intro (And.intro @ac_root_Find.eq_1 (@mR _ _ ac_root_Find_0.eq_1)) (@mR _ _ ac_root_Find_1.eq_1)) (And.intro (@mR _ _ ac_root_Find_2.eq_1) (@mR _ _ ac_root_Find_3.eq_1))) (And.intro (And.intro (@mU _ _ ac_root_Find_4.eq_1) (@mU _ _ ac_root_Find_5.eq_1)) (And.intro (@mU _ _ ac_root_Find_6.eq_1) (@mR _ _ ac_root_Find_7.eq_1)))) (And.intro (And.intro (And.intro (And.intro (@mU _ _ ac_root_Find_8.eq_1) (@mU _ _ ac_root_Find_9.eq_1)) (@mU _ _ ac_root_Find_10.eq_1)) (And.intro (@mU _ _ ac_root_Find_11.eq_1) @l_root_Find_0.eq_1)) (And.intro (And.intro @l_root_Find_1.eq_1 @l_root_Find_2.eq_1) (And.intro @l_root_Find_3.eq_1 @l_root_Find_7.eq_1))))

/- scoria/root.Read -/
def l_root_Read_0 : List AOp := [⟨(some 2), .mv (.k (.int .i64 0)), none, none, [], none⟩,
  ⟨(some 3), .mv (.k (.slc [])), none, none, [], none⟩,
  ⟨(some 4), .mv (.k (.int .i64 0)), none, none, [], none⟩]
def ac_root_Read_0 : AC := .reg l_root_Read_0
def l_root_Read_1 : List AOp := [⟨(some 14), .mv (.t 0), none, none, [], none⟩,
  ⟨(some 15), .call false 21 [], none, none, [], none⟩,
  ⟨(some 16), .call false 27 [(.t 14), (.t 15)], none, none, [], none⟩,
  ⟨(some 13), .mv (.t 16), none, none, [], none⟩,
  ⟨(some 17), .ext 0 (.t 13), none, none, [], none⟩,
  ⟨(some 18), .ext 1 (.t 13), none, none, [], none⟩,
  ⟨(some 19), .ext 2 (.t 13), none, none, [], none⟩,
  ⟨(some 5), .mv (.t 17), none, none, [], none⟩,
  ⟨(some 6), .mv (.t 18), none, none, [], none⟩,
  ⟨(some 4), .mv (.t 19), none, none, [], none⟩]
def ac_root_Read_1 : AC := .reg l_root_Read_1
def l_root_Read_2 : List AOp := [⟨(some 20), .mv (.t 4), none, none, [], none⟩,
  ⟨(some 21), .bin .neq (.t 20) (.k (.int .i64 0)), none, none, [], none⟩,
  ⟨(some 22), .mv (.t 21), none, none, [], none⟩,
  ⟨(some 23), .mv (.t 5), (some (22, false)), none, [], none⟩,
  ⟨(some 24), .isl 1 (.t 23) (.k (.int .i64 1)), (some (22, false)), none, [], none⟩,
  ⟨(some 25), .load none (.t 24), (some (22, false)), none, [], none⟩,
  ⟨(some 26), .bin .gtr (.t 25) (.k (.int .u64 8)), (some (22, false)), none, [], none⟩,
  ⟨(some 27), .pick (.t 22) (.k (.bool true)) (.t 26), none, none, [], none⟩]
def ac_root_Read_2 : AC := .reg l_root_Read_2
def l_root_Read_3 : List AOp := [⟨(some 2), .mv (.k (.int .i64 0)), none, none, [], none⟩,
  ⟨(some 3), .mv (.k (.slc [])), none, none, [], none⟩,
  ⟨(some 4), .mv (.k (.int .i64 3)), none, none, [], none⟩]
def ac_root_Read_3 : AC := .reg l_root_Read_3
def ac_root_Read_4 : AC := .seq ac_root_Read_3 .ret
def ac_root_Read_5 : AC := .cond (.t 27) ac_root_Read_4 .skip
def ac_root_Read_6 : AC := .seq ac_root_Read_2 ac_root_Read_5
def l_root_Read_7 : List AOp := [⟨(some 7), .nilown 4, none, none, [], none⟩]
def ac_root_Read_7 : AC := .reg l_root_Read_7
def l_root_Read_8 : List AOp := [⟨(some 28), .mv (.t 5), none, none, [], none⟩,
  ⟨(some 29), .isl 1 (.t 28) (.k (.int .i64 1)), none, none, [], none⟩,
  ⟨(some 30), .load none (.t 29), none, none, [], none⟩,
  ⟨(some 31), .mv (.k (.int .u64 0)), none, none, [], none⟩]
def ac_root_Read_8 : AC := .reg l_root_Read_8
def l_root_Read_9 : List AOp := [⟨(some 32), .bin .lss (.t 31) (.t 30), none, none, [], none⟩]
def ac_root_Read_9 : AC := .reg l_root_Read_9
def ac_root_Read_10 : AC := .cond (.t 32) .skip (.exit 0)
def l_root_Read_11 : List AOp := [⟨(some 34), .mv (.t 6), none, none, [], none⟩,
  ⟨(some 35), .call false 22 [], none, none, [], none⟩,
  ⟨(some 36), .call false 27 [(.t 34), (.t 35)], none, none, [], none⟩,
  ⟨(some 33), .mv (.t 36), none, none, [], none⟩,
  ⟨(some 37), .ext 0 (.t 33), none, none, [], none⟩,
  ⟨(some 38), .ext 1 (.t 33), none, none, [], none⟩,
  ⟨(some 39), .ext 2 (.t 33), none, none, [], none⟩,
  ⟨(some 8), .mv (.t 37), none, none, [], none⟩,
  ⟨(some 9), .mv (.t 38), none, none, [], none⟩,
  ⟨(some 10), .mv (.t 39), none, none, [], none⟩]
def ac_root_Read_11 : AC := .reg l_root_Read_11
def l_root_Read_12 : List AOp := [⟨(some 40), .mv (.t 10), none, none, [], none⟩,
  ⟨(some 41), .bin .neq (.t 40) (.k (.int .i64 0)), none, none, [], none⟩]
def ac_root_Read_12 : AC := .reg l_root_Read_12
def l_root_Read_13 : List AOp := [⟨(some 2), .mv (.k (.int .i64 0)), none, none, [], none⟩,
  ⟨(some 3), .mv (.k (.slc [])), none, none, [], none⟩,
  ⟨(some 4), .mv (.k (.int .i64 3)), none, none, [], none⟩]
def ac_root_Read_13 : AC := .reg l_root_Read_13
def ac_root_Read_14 : AC := .seq ac_root_Read_13 .ret
def ac_root_Read_15 : AC := .cond (.t 41) ac_root_Read_14 .skip
def ac_root_Read_16 : AC := .seq ac_root_Read_12 ac_root_Read_15
def l_root_Read_17 : List AOp := [⟨(some 42), .mv (.t 7), none, none, [], none⟩,
  ⟨(some 43), .mv (.t 8), none, none, [], none⟩,
  ⟨(some 44), .isl 1 (.t 43) (.k (.int .i64 0)), none, none, [0], none⟩,
  ⟨(some 45), .load none (.t 44), none, none, [0], none⟩,
  ⟨(some 46), .conv .i64 (.t 45), none, none, [], none⟩,
  ⟨(some 47), .mv (.t 8), none, none, [], none⟩,
  ⟨(some 48), .isl 1 (.t 47) (.k (.int .i64 1)), none, none, [0], none⟩,
  ⟨(some 49), .load none (.t 48), none, none, [0], none⟩,
  ⟨(some 50), .conv .i64 (.t 49), none, none, [], none⟩,
  ⟨(some 51), .mv (.t 8), none, none, [], none⟩,
  ⟨(some 52), .isl 1 (.t 51) (.k (.int .i64 2)), none, none, [0], none⟩,
  ⟨(some 53), .load none (.t 52), none, none, [0], none⟩,
  ⟨(some 54), .mv (.t 8), none, none, [], none⟩,
  ⟨(some 55), .isl 1 (.t 54) (.k (.int .i64 3)), none, none, [0], none⟩,
  ⟨(some 56), .load none (.t 55), none, none, [0], none⟩,
  ⟨(some 57), .call false 28 [(.t 53), (.t 56)], none, none, [0], none⟩,
  ⟨(some 58), .mv (.t 8), none, none, [], none⟩,
  ⟨(some 59), .isl 1 (.t 58) (.k (.int .i64 3)), none, none, [0], none⟩,
  ⟨(some 60), .load none (.t 59), none, none, [0], none⟩,
  ⟨(some 61), .conv .i64 (.t 60), none, none, [], none⟩,
  ⟨(some 62), .build [(.int .i64 0), (.int .i64 0), (.int .i64 0), (.int .i64 0)] [(0, 1, (.t 46)), (1, 1, (.t 50)), (2, 1, (.t 57)), (3, 1, (.t 61))], none, none, [], none⟩,
  ⟨(some 63), .blds false [(.int .i64 0), (.int .i64 0), (.int .i64 0), (.int .i64 0)] 1 [(0, (.t 62))], none, none, [0], none⟩,
  ⟨(some 64), .app 4 32 [(.int .i64 0), (.int .i64 0), (.int .i64 0), (.int .i64 0)] (.t 42) (.t 63), none, (some 0), [], none⟩,
  ⟨(some 7), .mv (.t 64), none, none, [], none⟩]
def ac_root_Read_17 : AC := .dreg 1 l_root_Read_17
def l_root_Read_18 : List AOp := [⟨(some 65), .mv (.t 9), none, none, [], none⟩,
  ⟨(some 6), .mv (.t 65), none, none, [], none⟩]
def ac_root_Read_18 : AC := .reg l_root_Read_18
def ac_root_Read_19 : AC := .seq ac_root_Read_17 ac_root_Read_18
def ac_root_Read_20 : AC := .seq ac_root_Read_16 ac_root_Read_19
def ac_root_Read_21 : AC := .seq ac_root_Read_11 ac_root_Read_20
def ac_root_Read_22 : AC := .block 1 ac_root_Read_21
def l_root_Read_23 : List AOp := [⟨(some 66), .bin .add (.t 31) (.k (.int .u64 1)), none, none, [], none⟩,
  ⟨(some 31), .mv (.t 66), none, none, [], none⟩]
def ac_root_Read_23 : AC := .reg l_root_Read_23
def ac_root_Read_24 : AC := .seq ac_root_Read_22 ac_root_Read_23
def ac_root_Read_25 : AC := .seq ac_root_Read_10 ac_root_Read_24
def ac_root_Read_26 : AC := .seq ac_root_Read_9 ac_root_Read_25
def ac_root_Read_27 : AC := .loop [0, 5, 6, 7, 30, 31] 1 ac_root_Read_26
def ac_root_Read_28 : AC := .block 0 ac_root_Read_27
def ac_root_Read_29 : AC := .seq ac_root_Read_8 ac_root_Read_28
def l_root_Read_30 : List AOp := [⟨(some 68), .mv (.t 5), none, none, [], none⟩,
  ⟨(some 69), .isl 1 (.t 68) (.k (.int .i64 0)), none, none, [], none⟩,
  ⟨(some 70), .load none (.t 69), none, none, [], none⟩,
  ⟨(some 71), .conv .i64 (.t 70), none, none, [], none⟩,
  ⟨(some 72), .mv (.t 7), none, none, [], none⟩,
  ⟨(some 73), .call false 10 [(.t 71), (.t 72)], none, none, [], none⟩,
  ⟨(some 67), .mv (.t 73), none, none, [], none⟩,
  ⟨(some 74), .ext 0 (.t 67), none, none, [], none⟩,
  ⟨(some 75), .ext 1 (.t 67), none, none, [], none⟩,
  ⟨(some 11), .mv (.t 74), none, none, [], none⟩,
  ⟨(some 12), .mv (.t 75), none, none, [], none⟩]
def ac_root_Read_30 : AC := .reg l_root_Read_30
def l_root_Read_31 : List AOp := [⟨(some 76), .mv (.t 12), none, none, [], none⟩,
  ⟨(some 77), .bin .neq (.t 76) (.k (.int .i64 0)), none, none, [], none⟩,
  ⟨(some 78), .mv (.t 77), none, none, [], none⟩,
  ⟨(some 79), .mv (.t 11), (some (78, false)), none, [], none⟩,
  ⟨(some 80), .mv (.t 0), (some (78, false)), none, [], none⟩,
  ⟨(some 81), .bin .neq (.t 79) (.t 80), (some (78, false)), none, [], none⟩,
  ⟨(some 82), .pick (.t 78) (.k (.bool true)) (.t 81), none, none, [], none⟩]
def ac_root_Read_31 : AC := .reg l_root_Read_31
def l_root_Read_32 : List AOp := [⟨(some 2), .mv (.k (.int .i64 0)), none, none, [], none⟩,
  ⟨(some 3), .mv (.k (.slc [])), none, none, [], none⟩,
  ⟨(some 4), .mv (.k (.int .i64 3)), none, none, [], none⟩]
def ac_root_Read_32 : AC := .reg l_root_Read_32
def ac_root_Read_33 : AC := .seq ac_root_Read_32 .ret
def ac_root_Read_34 : AC := .cond (.t 82) ac_root_Read_33 .skip
def ac_root_Read_35 : AC := .seq ac_root_Read_31 ac_root_Read_34
def ac_root_Read_36 : AC := .seq ac_root_Read_30 ac_root_Read_35
def l_root_Read_37 : List AOp := [⟨(some 83), .mv (.t 5), none, none, [], none⟩,
  ⟨(some 84), .isl 1 (.t 83) (.k (.int .i64 0)), none, none, [], none⟩,
  ⟨(some 85), .load none (.t 84), none, none, [], none⟩,
  ⟨(some 86), .conv .i64 (.t 85), none, none, [], none⟩,
  ⟨(some 87), .mv (.t 7), none, none, [], none⟩,
  ⟨(some 2), .mv (.t 86), none, none, [], none⟩,
  ⟨(some 3), .mv (.t 87), none, none, [], none⟩,
  ⟨(some 4), .mv (.k (.int .i64 0)), none, none, [], none⟩]
def ac_root_Read_37 : AC := .reg l_root_Read_37
def ac_root_Read_38 : AC := .seq ac_root_Read_37 .ret
def ac_root_Read_39 : AC := .seq ac_root_Read_36 ac_root_Read_38
def ac_root_Read_40 : AC := .seq ac_root_Read_29 ac_root_Read_39
def ac_root_Read_41 : AC := .seq ac_root_Read_7 ac_root_Read_40
def ac_root_Read_42 : AC := .seq ac_root_Read_6 ac_root_Read_41
def ac_root_Read_43 : AC := .seq ac_root_Read_1 ac_root_Read_42
def ac_root_Read_44 : AC := .seq ac_root_Read_0 ac_root_Read_43
def ac_root_Read : AC := ac_root_Read_44
theorem comp_root_Read : compF Try.prog [7] (drawR Try.prog [7] Try.f15.ntmps) [([0, 5, 6, 7, 30, 31], 1)] 1 Try.f15 = some (ac_root_Read, [.t 2, .t 3, .t 4]) := by kernel_rfl
def U_root_Read := (And.intro (And.intro (And.intro (And.intro (And.intro (And.intro @ac_root_Read.eq_1 (@mR _ _ ac_root_Read_0.eq_1)) (And.intro (@mR _ _ ac_root_Read_1.eq_1) (@mR _ _ ac_root_Read_2.eq_1))) (And.intro (And.intro (@mR _ _ ac_root_Read_3.eq_1) (@mU _ _ ac_root_Read_4.eq_1)) (And.intro (@mU _ _ ac_root_Read_5.eq_1) (@mU _ _ ac_root_Read_6.eq_1)))) (And.intro (And.intro (And.intro (@mR _ _ ac_root_Read_7.eq_1) (@mR _ _ ac_root_Read_8.eq_1)) (And.intro (@mR _ _ ac_root_Read_9.eq_1) (@mU _ _ ac_root_Read_10.eq_1))) (And.intro (And.intro (@mR _ _ ac_root_Read_11.eq_1) (@mR _ _ ac_root_Read_12.eq_1)) (And.intro (@mR _ _ ac_root_Read_13.eq_1) (@mU _ _ ac_root_Read_14.eq_1))))) (And.intro (And.intro (And.intro (And.intro (@mU _ _ ac_root_Read_15.eq_1) (@mU _ _ ac_root_Read_16.eq_1)) (And.intro (@mD _ _ _ ac_root_Read_17.eq_1) (@mR _ _ ac_root_Read_18.eq_1))) (And.intro (And.intro (@mU _ _ ac_root_Read_19.eq_1) (@mU _ _ ac_root_Read_20.eq_1)) (And.intro (@mU _ _ ac_root_Read_21.eq_1) (@mU _ _ ac_root_Read_22.eq_1)))) (And.intro (And.intro (And.intro (@mR _ _ ac_root_Read_23.eq_1) (@mU _ _ ac_root_Read_24.eq_1)) (And.intro (@mU _ _ ac_root_Read_25.eq_1) (@mU _ _ ac_root_Read_26.eq_1))) (And.intro (And.intro (@mU _ _ ac_root_Read_27.eq_1) (@mU _ _ ac_root_Read_28.eq_1)) (And.intro (@mU _ _ ac_root_Read_29.eq_1) (@mR _ _ ac_root_Read_30.eq_1)))))) (And.intro (And.intro (And.intro (And.intro (And.intro (@mR _ _ ac_root_Read_31.eq_1) (@mR _ _ ac_root_Read_32.eq_1)) (And.intro (@mU _ _ ac_root_Read_33.eq_1) (@mU _ _ ac_root_Read_34.eq_1))) (And.intro (And.intro (@mU _ _ ac_root_Read_35.eq_1) (@mU _ _ ac_root_Read_36.eq_1)) (And.intro (@mR _ _ ac_root_Read_37.eq_1) (@mU _ _ ac_root_Read_38.eq_1)))) (And.intro (And.intro (And.intro (@mU _ _ ac_root_Read_39.eq_1) (@mU _ _ ac_root_Read_40.eq_1)) (And.intro (@mU _ _ ac_root_Read_41.eq_1) (@mU _ _ ac_root_Read_42.eq_1))) (And.intro (And.intro (@mU _ _ ac_root_Read_43.eq_1) (@mU _ _ ac_root_Read_44.eq_1)) (And.intro @l_root_Read_0.eq_1 @l_root_Read_1.eq_1)))) (And.intro (And.intro (And.intro (And.intro @l_root_Read_2.eq_1 @l_root_Read_3.eq_1) (And.intro @l_root_Read_7.eq_1 @l_root_Read_8.eq_1)) (And.intro (And.intro @l_root_Read_9.eq_1 @l_root_Read_11.eq_1) (And.intro @l_root_Read_12.eq_1 @l_root_Read_13.eq_1))) (And.intro (And.intro (And.intro @l_root_Read_17.eq_1 @l_root_Read_18.eq_1) (And.intro @l_root_Read_23.eq_1 @l_root_Read_30.eq_1)) (And.intro (And.intro @l_root_Read_31.eq_1 @l_root_Read_32.eq_1) @l_root_Read_37.eq_1)))))

/- scoria/scoriaref12.Read -/
def l_ref12_Read_0 : List AOp := [⟨(some 2), .mv (.k (.int .i64 0)), none, none, [], none⟩,
  ⟨(some 3), .mv (.k (.slc [])), none, none, [], none⟩,
  ⟨(some 4), .mv (.k (.int .i64 0)), none, none, [], none⟩]
def ac_ref12_Read_0 : AC := .reg l_ref12_Read_0
def l_ref12_Read_1 : List AOp := [⟨(some 11), .mv (.t 0), none, none, [], none⟩,
  ⟨(some 12), .call false 29 [(.t 11), (.k (.int .i64 0)), (.k (.int .i64 5))], none, none, [], none⟩,
  ⟨(some 5), .mv (.t 12), none, none, [], none⟩]
def ac_ref12_Read_1 : AC := .reg l_ref12_Read_1
def l_ref12_Read_2 : List AOp := [⟨(some 6), .nilown 4, none, none, [], none⟩]
def ac_ref12_Read_2 : AC := .reg l_ref12_Read_2
def l_ref12_Read_3 : List AOp := [⟨(some 7), .mv (.k (.int .i64 6)), none, none, [], none⟩]
def ac_ref12_Read_3 : AC := .reg l_ref12_Read_3
def l_ref12_Read_4 : List AOp := [⟨(some 13), .mv (.t 7), none, none, [], none⟩,
  ⟨(some 14), .mv (.t 0), none, none, [], none⟩,
  ⟨(some 15), .lens (.t 14), none, none, [], none⟩,
  ⟨(some 16), .bin .lss (.t 13) (.t 15), none, none, [], none⟩,
  ⟨(some 17), .mv (.t 16), none, none, [], none⟩,
  ⟨(some 18), .mv (.t 6), (some (17, true)), none, [], none⟩,
  ⟨(some 19), .len (.t 18), (some (17, true)), none, [], none⟩,
  ⟨(some 20), .bin .lss (.t 19) (.k (.int .i64 8)), (some (17, true)), none, [], none⟩,
  ⟨(some 21), .pick (.t 17) (.t 20) (.k (.bool false)), none, none, [], none⟩]
def ac_ref12_Read_4 : AC := .reg l_ref12_Read_4
def ac_ref12_Read_5 : AC := .cond (.t 21) .skip (.exit 0)
def ac_ref12_Read_6 : AC := .seq ac_ref12_Read_4 ac_ref12_Read_5
def l_ref12_Read_7 : List AOp := [⟨(some 24), .mv (.t 0), none, none, [], none⟩,
  ⟨(some 25), .mv (.t 7), none, none, [], none⟩,
  ⟨(some 26), .call false 29 [(.t 24), (.t 25), (.k (.int .i64 2))], none, none, [], none⟩,
  ⟨(some 27), .mv (.t 0), none, none, [], none⟩,
  ⟨(some 28), .mv (.t 7), none, none, [], none⟩,
  ⟨(some 29), .bin .add (.t 28) (.k (.int .i64 2)), none, none, [], none⟩,
  ⟨(some 30), .call false 29 [(.t 27), (.t 29), (.k (.int .i64 4))], none, none, [], none⟩,
  ⟨(some 31), .mv (.t 0), none, none, [], none⟩,
  ⟨(some 32), .mv (.t 7), none, none, [], none⟩,
  ⟨(some 33), .bin .add (.t 32) (.k (.int .i64 6)), none, none, [], none⟩,
  ⟨(some 34), .call false 29 [(.t 31), (.t 33), (.k (.int .i64 2))], none, none, [], none⟩,
  ⟨(some 35), .mv (.t 0), none, none, [], none⟩,
  ⟨(some 36), .mv (.t 7), none, none, [], none⟩,
  ⟨(some 37), .bin .add (.t 36) (.k (.int .i64 8)), none, none, [], none⟩,
  ⟨(some 38), .call false 29 [(.t 35), (.t 37), (.k (.int .i64 1))], none, none, [], none⟩,
  ⟨(some 39), .build [(.int .i64 0), (.int .i64 0), (.int .i64 0), (.int .i64 0)] [(0, 1, (.t 26)), (1, 1, (.t 30)), (2, 1, (.t 34)), (3, 1, (.t 38))], none, none, [], none⟩,
  ⟨(some 8), .alloc [(.int .i64 0), (.int .i64 0), (.int .i64 0), (.int .i64 0)], none, none, [], none⟩,
  ⟨none, .store 4 (.t 8) (.t 39), none, none, [], none⟩]
def ac_ref12_Read_7 : AC := .reg l_ref12_Read_7
def l_ref12_Read_8 : List AOp := [⟨(some 40), .faddr 3 (.t 8), none, none, [], none⟩,
  ⟨(some 41), .load none (.t 40), none, none, [], none⟩,
  ⟨(some 42), .bin .eql (.t 41) (.k (.int .i64 0)), none, none, [], none⟩]
def ac_ref12_Read_8 : AC := .reg l_ref12_Read_8
def l_ref12_Read_9 : List AOp := [⟨(some 43), .faddr 2 (.t 8), none, none, [], none⟩,
  ⟨none, .store 1 (.t 43) (.k (.int .i64 (-1))), none, none, [], none⟩]
def ac_ref12_Read_9 : AC := .reg l_ref12_Read_9
def ac_ref12_Read_10 : AC := .cond (.t 42) ac_ref12_Read_9 .skip
def ac_ref12_Read_11 : AC := .seq ac_ref12_Read_8 ac_ref12_Read_10
def l_ref12_Read_12 : List AOp := [⟨(some 44), .mv (.t 6), none, none, [], none⟩,
  ⟨(some 45), .load (some 4) (.t 8), none, none, [], none⟩,
  ⟨(some 46), .blds false [(.int .i64 0), (.int .i64 0), (.int .i64 0), (.int .i64 0)] 1 [(0, (.t 45))], none, none, [], none⟩,
  ⟨(some 47), .app 4 32 [(.int .i64 0), (.int .i64 0), (.int .i64 0), (.int .i64 0)] (.t 44) (.t 46), none, none, [], none⟩,
  ⟨(some 6), .mv (.t 47), none, none, [], none⟩]
def ac_ref12_Read_12 : AC := .reg l_ref12_Read_12
def ac_ref12_Read_13 : AC := .seq ac_ref12_Read_11 ac_ref12_Read_12
def ac_ref12_Read_14 : AC := .seq ac_ref12_Read_7 ac_ref12_Read_13
def ac_ref12_Read_15 : AC := .block 1 ac_ref12_Read_14
def l_ref12_Read_16 : List AOp := [⟨(some 22), .mv (.t 7), none, none, [], none⟩,
  ⟨(some 23), .bin .add (.t 22) (.k (.int .i64 9)), none, none, [], none⟩,
  ⟨(some 7), .mv (.t 23), none, none, [], none⟩]
def ac_ref12_Read_16 : AC := .reg l_ref12_Read_16
def ac_ref12_Read_17 : AC := .seq ac_ref12_Read_15 ac_ref12_Read_16
def ac_ref12_Read_18 : AC := .seq ac_ref12_Read_6 ac_ref12_Read_17
def ac_ref12_Read_19 : AC := .loop [0, 5, 6, 7] 1 ac_ref12_Read_18
def ac_ref12_Read_20 : AC := .block 0 ac_ref12_Read_19
def ac_ref12_Read_21 : AC := .seq ac_ref12_Read_3 ac_ref12_Read_20
def l_ref12_Read_22 : List AOp := [⟨(some 49), .mv (.t 5), none, none, [], none⟩,
  ⟨(some 50), .mv (.t 6), none, none, [], none⟩,
  ⟨(some 51), .call false 11 [(.t 49), (.t 50)], none, none, [], none⟩,
  ⟨(some 48), .mv (.t 51), none, none, [], none⟩,
  ⟨(some 52), .ext 0 (.t 48), none, none, [], none⟩,
  ⟨(some 53), .ext 1 (.t 48), none, none, [], none⟩,
  ⟨(some 9), .mv (.t 52), none, none, [], none⟩,
  ⟨(some 10), .mv (.t 53), none, none, [], none⟩]
def ac_ref12_Read_22 : AC := .reg l_ref12_Read_22
def l_ref12_Read_23 : List AOp := [⟨(some 54), .mv (.t 10), none, none, [], none⟩,
  ⟨(some 55), .bin .neq (.t 54) (.k (.int .i64 0)), none, none, [], none⟩,
  ⟨(some 56), .mv (.t 55), none, none, [], none⟩,
  ⟨(some 57), .mv (.t 9), (some (56, false)), none, [], none⟩,
  ⟨(some 58), .mv (.t 0), (some (56, false)), none, [], none⟩,
  ⟨(some 59), .bin .neq (.t 57) (.t 58), (some (56, false)), none, [], none⟩,
  ⟨(some 60), .pick (.t 56) (.k (.bool true)) (.t 59), none, none, [], none⟩]
def ac_ref12_Read_23 : AC := .reg l_ref12_Read_23
def l_ref12_Read_24 : List AOp := [⟨(some 2), .mv (.k (.int .i64 0)), none, none, [], none⟩,
  ⟨(some 3), .mv (.k (.slc [])), none, none, [], none⟩,
  ⟨(some 4), .mv (.k (.int .i64 3)), none, none, [], none⟩]
def ac_ref12_Read_24 : AC := .reg l_ref12_Read_24
def ac_ref12_Read_25 : AC := .seq ac_ref12_Read_24 .ret
def ac_ref12_Read_26 : AC := .cond (.t 60) ac_ref12_Read_25 .skip
def ac_ref12_Read_27 : AC := .seq ac_ref12_Read_23 ac_ref12_Read_26
def l_ref12_Read_28 : List AOp := [⟨(some 61), .mv (.t 5), none, none, [], none⟩,
  ⟨(some 62), .mv (.t 6), none, none, [], none⟩,
  ⟨(some 2), .mv (.t 61), none, none, [], none⟩,
  ⟨(some 3), .mv (.t 62), none, none, [], none⟩,
  ⟨(some 4), .mv (.k (.int .i64 0)), none, none, [], none⟩]
def ac_ref12_Read_28 : AC := .reg l_ref12_Read_28
def ac_ref12_Read_29 : AC := .seq ac_ref12_Read_28 .ret
def ac_ref12_Read_30 : AC := .seq ac_ref12_Read_27 ac_ref12_Read_29
def ac_ref12_Read_31 : AC := .seq ac_ref12_Read_22 ac_ref12_Read_30
def ac_ref12_Read_32 : AC := .seq ac_ref12_Read_21 ac_ref12_Read_31
def ac_ref12_Read_33 : AC := .seq ac_ref12_Read_2 ac_ref12_Read_32
def ac_ref12_Read_34 : AC := .seq ac_ref12_Read_1 ac_ref12_Read_33
def ac_ref12_Read_35 : AC := .seq ac_ref12_Read_0 ac_ref12_Read_34
def ac_ref12_Read : AC := ac_ref12_Read_35
theorem comp_ref12_Read : compF Try.prog [6] (drawR Try.prog [6] Try.f16.ntmps) [([0, 5, 6, 7], 1)] 1 Try.f16 = some (ac_ref12_Read, [.t 2, .t 3, .t 4]) := by kernel_rfl
def U_ref12_Read := (And.intro (And.intro (And.intro (And.intro (And.intro (And.intro @ac_ref12_Read.eq_1 (@mR _ _ ac_ref12_Read_0.eq_1)) (And.intro (@mR _ _ ac_ref12_Read_1.eq_1) (@mR _ _ ac_ref12_Read_2.eq_1))) (And.intro (And.intro (@mR _ _ ac_ref12_Read_3.eq_1) (@mR _ _ ac_ref12_Read_4.eq_1)) (@mU _ _ ac_ref12_Read_5.eq_1))) (And.intro (And.intro (And.intro (@mU _ _ ac_ref12_Read_6.eq_1) (@mR _ _ ac_ref12_Read_7.eq_1)) (@mR _ _ ac_ref12_Read_8.eq_1)) (And.intro (And.intro (@mR _ _ ac_ref12_Read_9.eq_1) (@mU _ _ ac_ref12_Read_10.eq_1)) (@mU _ _ ac_ref12_Read_11.eq_1)))) (And.intro (And.intro (And.intro (And.intro (@mR _ _ ac_ref12_Read_12.eq_1) (@mU _ _ ac_ref12_Read_13.eq_1)) (And.intro (@mU _ _ ac_ref12_Read_14.eq_1) (@mU _ _ ac_ref12_Read_15.eq_1))) (And.intro (And.intro (@mR _ _ ac_ref12_Read_16.eq_1) (@mU _ _ ac_ref12_Read_17.eq_1)) (@mU _ _ ac_ref12_Read_18.eq_1))) (And.intro (And.intro (And.intro (@mU _ _ ac_ref12_Read_19.eq_1) (@mU _ _ ac_ref12_Read_20.eq_1)) (@mU _ _ ac_ref12_Read_21.eq_1)) (And.intro (And.intro (@mR _ _ ac_ref12_Read_22.eq_1) (@mR _ _ ac_ref12_Read_23.eq_1)) (@mR _ _ ac_ref12_Read_24.eq_1))))) (And.intro (And.intro (And.intro (And.intro (And.intro (@mU _ _ ac_ref12_Read_25.eq_1) (@mU _ _ ac_ref12_Read_26.eq_1)) (And.intro (@mU _ _ ac_ref12_Read_27.eq_1) (@mR _ _ ac_ref12_Read_28.eq_1))) (And.intro (And.intro (@mU _ _ ac_ref12_Read_29.eq_1) (@mU _ _ ac_ref12_Read_30.eq_1)) (@mU _ _ ac_ref12_Read_31.eq_1))) (And.intro (And.intro (And.intro (@mU _ _ ac_ref12_Read_32.eq_1) (@mU _ _ ac_ref12_Read_33.eq_1)) (@mU _ _ ac_ref12_Read_34.eq_1)) (And.intro (And.intro (@mU _ _ ac_ref12_Read_35.eq_1) @l_ref12_Read_0.eq_1) @l_ref12_Read_1.eq_1))) (And.intro (And.intro (And.intro (And.intro @l_ref12_Read_2.eq_1 @l_ref12_Read_3.eq_1) @l_ref12_Read_4.eq_1) (And.intro (And.intro @l_ref12_Read_7.eq_1 @l_ref12_Read_8.eq_1) @l_ref12_Read_9.eq_1)) (And.intro (And.intro (And.intro @l_ref12_Read_12.eq_1 @l_ref12_Read_16.eq_1) @l_ref12_Read_22.eq_1) (And.intro (And.intro @l_ref12_Read_23.eq_1 @l_ref12_Read_24.eq_1) @l_ref12_Read_28.eq_1)))))

/- scoria/root.may -/
def l_root_may_0 : List AOp := [⟨(some 4), .mv (.k (.bool false)), none, none, [], none⟩]
def ac_root_may_0 : AC := .reg l_root_may_0
def l_root_may_1 : List AOp := [⟨(some 7), .mv (.t 0), none, none, [], none⟩,
  ⟨(some 8), .call false 34 [(.t 7), (.k (.int .i64 0)), (.k (.int .i64 1099511627775))], none, none, [], none⟩,
  ⟨(some 9), .un .not (.t 8), none, none, [], none⟩,
  ⟨(some 10), .mv (.t 9), none, none, [], none⟩,
  ⟨(some 11), .mv (.t 1), (some (10, false)), none, [], none⟩,
  ⟨(some 12), .len (.t 11), (some (10, false)), none, [], none⟩,
  ⟨(some 13), .bin .gtr (.t 12) (.k (.int .i64 8)), (some (10, false)), none, [], none⟩,
  ⟨(some 14), .pick (.t 10) (.k (.bool true)) (.t 13), none, none, [], none⟩]
def ac_root_may_1 : AC := .reg l_root_may_1
def l_root_may_2 : List AOp := [⟨(some 4), .mv (.k (.bool false)), none, none, [], none⟩]
def ac_root_may_2 : AC := .reg l_root_may_2
def ac_root_may_3 : AC := .seq ac_root_may_2 .ret
def ac_root_may_4 : AC := .cond (.t 14) ac_root_may_3 .skip
def ac_root_may_5 : AC := .seq ac_root_may_1 ac_root_may_4
def l_root_may_6 : List AOp := [⟨(some 15), .mv (.t 1), none, none, [], none⟩,
  ⟨(some 16), .len (.t 15), none, none, [], none⟩,
  ⟨(some 17), .mv (.k (.int .i64 0)), none, none, [], none⟩]
def ac_root_may_6 : AC := .reg l_root_may_6
def l_root_may_7 : List AOp := [⟨(some 18), .bin .lss (.t 17) (.t 16), none, none, [], none⟩]
def ac_root_may_7 : AC := .reg l_root_may_7
def ac_root_may_8 : AC := .cond (.t 18) .skip (.exit 0)
def l_root_may_9 : List AOp := [⟨(some 19), .mv (.t 17), none, none, [], none⟩,
  ⟨(some 20), .isl 4 (.t 15) (.t 17), none, none, [], none⟩,
  ⟨(some 21), .load (some 4) (.t 20), none, none, [], none⟩,
  ⟨(some 6), .alloc [(.int .i64 0), (.int .i64 0), (.int .i64 0), (.int .i64 0)], none, none, [], none⟩,
  ⟨(some 5), .mv (.t 19), none, none, [], none⟩,
  ⟨none, .store 4 (.t 6) (.t 21), none, none, [], none⟩]
def ac_root_may_9 : AC := .reg l_root_may_9
def l_root_may_10 : List AOp := [⟨(some 22), .load (some 4) (.t 6), none, none, [], none⟩,
  ⟨(some 23), .call false 35 [(.t 22)], none, none, [], none⟩,
  ⟨(some 24), .un .not (.t 23), none, none, [], none⟩,
  ⟨(some 25), .mv (.t 24), none, none, [], none⟩,
  ⟨(some 26), .mv (.t 5), (some (25, false)), none, [], none⟩,
  ⟨(some 27), .bin .gtr (.t 26) (.k (.int .i64 0)), (some (25, false)), none, [], none⟩,
  ⟨(some 28), .mv (.t 27), (some (25, false)), none, [], none⟩,
  ⟨(some 29), .mv (.t 1), (some (28, true)), none, [], none⟩,
  ⟨(some 30), .mv (.t 5), (some (28, true)), none, [], none⟩,
  ⟨(some 31), .bin .sub (.t 30) (.k (.int .i64 1)), (some (28, true)), none, [], none⟩,
  ⟨(some 32), .isl 4 (.t 29) (.t 31), (some (28, true)), none, [], none⟩,
  ⟨(some 33), .faddr 0 (.t 32), (some (28, true)), none, [], none⟩,
  ⟨(some 34), .load none (.t 33), (some (28, true)), none, [], none⟩,
  ⟨(some 35), .faddr 0 (.t 6), (some (28, true)), none, [], none⟩,
  ⟨(some 36), .load none (.t 35), (some (28, true)), none, [], none⟩,
  ⟨(some 37), .bin .geq (.t 34) (.t 36), (some (28, true)), none, [], none⟩,
  ⟨(some 38), .pick (.t 28) (.t 37) (.k (.bool false)), (some (25, false)), none, [], none⟩,
  ⟨(some 39), .pick (.t 25) (.k (.bool true)) (.t 38), none, none, [], none⟩]
def ac_root_may_10 : AC := .dreg 0 l_root_may_10
def l_root_may_11 : List AOp := [⟨(some 4), .mv (.k (.bool false)), none, none, [], none⟩]
def ac_root_may_11 : AC := .reg l_root_may_11
def ac_root_may_12 : AC := .seq ac_root_may_11 .ret
def ac_root_may_13 : AC := .cond (.t 39) ac_root_may_12 .skip
def ac_root_may_14 : AC := .seq ac_root_may_10 ac_root_may_13
def ac_root_may_15 : AC := .seq ac_root_may_9 ac_root_may_14
def ac_root_may_16 : AC := .block 1 ac_root_may_15
def l_root_may_17 : List AOp := [⟨(some 40), .bin .add (.t 17) (.k (.int .i64 1)), none, none, [], none⟩,
  ⟨(some 17), .mv (.t 40), none, none, [], none⟩]
def ac_root_may_17 : AC := .reg l_root_may_17
def ac_root_may_18 : AC := .seq ac_root_may_16 ac_root_may_17
def ac_root_may_19 : AC := .seq ac_root_may_8 ac_root_may_18
def ac_root_may_20 : AC := .seq ac_root_may_7 ac_root_may_19
def ac_root_may_21 : AC := .loop [1, 15, 16, 17] 0 ac_root_may_20
def ac_root_may_22 : AC := .block 0 ac_root_may_21
def ac_root_may_23 : AC := .seq ac_root_may_6 ac_root_may_22
def l_root_may_24 : List AOp := [⟨(some 4), .mv (.k (.bool true)), none, none, [], none⟩]
def ac_root_may_24 : AC := .reg l_root_may_24
def ac_root_may_25 : AC := .seq ac_root_may_24 .ret
def ac_root_may_26 : AC := .seq ac_root_may_23 ac_root_may_25
def ac_root_may_27 : AC := .seq ac_root_may_5 ac_root_may_26
def ac_root_may_28 : AC := .seq ac_root_may_0 ac_root_may_27
def ac_root_may : AC := ac_root_may_28
theorem comp_root_may : compF Try.prog [] (drawR Try.prog [] Try.f19.ntmps) [([1, 15, 16, 17], 0)] 2 Try.f19 = some (ac_root_may, [.t 4]) := by kernel_rfl
def U_root_may := (And.intro (And.intro (And.intro (And.intro (And.intro (And.intro @ac_root_may.eq_1 (@mR _ _ ac_root_may_0.eq_1)) (@mR _ _ ac_root_may_1.eq_1)) (And.intro (@mR _ _ ac_root_may_2.eq_1) (@mU _ _ ac_root_may_3.eq_1))) (And.intro (And.intro (And.intro (@mU _ _ ac_root_may_4.eq_1) (@mU _ _ ac_root_may_5.eq_1)) (@mR _ _ ac_root_may_6.eq_1)) (And.intro (@mR _ _ ac_root_may_7.eq_1) (@mU _ _ ac_root_may_8.eq_1)))) (And.intro (And.intro (And.intro (And.intro (@mR _ _ ac_root_may_9.eq_1) (@mD _ _ _ ac_root_may_10.eq_1)) (@mR _ _ ac_root_may_11.eq_1)) (And.intro (@mU _ _ ac_root_may_12.eq_1) (@mU _ _ ac_root_may_13.eq_1))) (And.intro (And.intro (And.intro (@mU _ _ ac_root_may_14.eq_1) (@mU _ _ ac_root_may_15.eq_1)) (@mU _ _ ac_root_may_16.eq_1)) (And.intro (@mR _ _ ac_root_may_17.eq_1) (@mU _ _ ac_root_may_18.eq_1))))) (And.intro (And.intro (And.intro (And.intro (And.intro (@mU _ _ ac_root_may_19.eq_1) (@mU _ _ ac_root_may_20.eq_1)) (@mU _ _ ac_root_may_21.eq_1)) (And.intro (@mU _ _ ac_root_may_22.eq_1) (@mU _ _ ac_root_may_23.eq_1))) (And.intro (And.intro (And.intro (@mR _ _ ac_root_may_24.eq_1) (@mU _ _ ac_root_may_25.eq_1)) (@mU _ _ ac_root_may_26.eq_1)) (And.intro (@mU _ _ ac_root_may_27.eq_1) (@mU _ _ ac_root_may_28.eq_1)))) (And.intro (And.intro (And.intro (And.intro @l_root_may_0.eq_1 @l_root_may_1.eq_1) @l_root_may_2.eq_1) (And.intro @l_root_may_6.eq_1 @l_root_may_7.eq_1)) (And.intro (And.intro (And.intro @l_root_may_9.eq_1 @l_root_may_10.eq_1) @l_root_may_11.eq_1) (And.intro @l_root_may_17.eq_1 @l_root_may_24.eq_1)))))

/- scoria/field.Row -/
def l_field_Row_0 : List AOp := [⟨(some 4), .mv (.k (.str [])), none, none, [], none⟩,
  ⟨(some 5), .mv (.k (.int .i64 0)), none, none, [], none⟩]
def ac_field_Row_0 : AC := .reg l_field_Row_0
def l_field_Row_1 : List AOp := [⟨(some 9), .mv (.t 0), none, none, [], none⟩,
  ⟨(some 10), .len (.t 9), none, none, [], none⟩,
  ⟨(some 11), .mv (.t 1), none, none, [], none⟩,
  ⟨(some 12), .len (.t 11), none, none, [], none⟩,
  ⟨(some 13), .bin .neq (.t 10) (.t 12), none, none, [], none⟩,
  ⟨(some 14), .mv (.t 13), none, none, [], none⟩,
  ⟨(some 15), .mv (.t 1), (some (14, false)), none, [], none⟩,
  ⟨(some 16), .call false 36 [(.t 15), (.k (.fn (.func 37) [] []))], (some (14, false)), none, [], none⟩,
  ⟨(some 17), .pick (.t 14) (.k (.bool true)) (.t 16), none, none, [], none⟩]
def ac_field_Row_1 : AC := .reg l_field_Row_1
def l_field_Row_2 : List AOp := [⟨(some 4), .mv (.k (.str [])), none, none, [], none⟩,
  ⟨(some 5), .mv (.k (.int .i64 1)), none, none, [], none⟩]
def ac_field_Row_2 : AC := .reg l_field_Row_2
def ac_field_Row_3 : AC := .seq ac_field_Row_2 .ret
def ac_field_Row_4 : AC := .cond (.t 17) ac_field_Row_3 .skip
def ac_field_Row_5 : AC := .seq ac_field_Row_1 ac_field_Row_4
def l_field_Row_6 : List AOp := [⟨(some 6), .balloc 78 5, none, none, [], none⟩]
def ac_field_Row_6 : AC := .reg l_field_Row_6
def l_field_Row_7 : List AOp := [⟨(some 18), .mv (.t 0), none, none, [], none⟩,
  ⟨(some 19), .len (.t 18), none, none, [], none⟩,
  ⟨(some 20), .mv (.k (.int .i64 0)), none, none, [], none⟩]
def ac_field_Row_7 : AC := .reg l_field_Row_7
def l_field_Row_8 : List AOp := [⟨(some 21), .bin .lss (.t 20) (.t 19), none, none, [], none⟩]
def ac_field_Row_8 : AC := .reg l_field_Row_8
def ac_field_Row_9 : AC := .cond (.t 21) .skip (.exit 0)
def l_field_Row_10 : List AOp := [⟨(some 22), .mv (.t 20), none, none, [], none⟩,
  ⟨(some 23), .isl 1 (.t 18) (.t 20), none, none, [], none⟩,
  ⟨(some 24), .load none (.t 23), none, none, [], none⟩,
  ⟨(some 7), .mv (.t 22), none, none, [], none⟩,
  ⟨(some 8), .mv (.t 24), none, none, [], none⟩]
def ac_field_Row_10 : AC := .reg l_field_Row_10
def l_field_Row_11 : List AOp := [⟨(some 25), .mv (.t 8), none, none, [], none⟩,
  ⟨(some 26), .mv (.t 1), none, none, [], none⟩,
  ⟨(some 27), .mv (.t 7), none, none, [], none⟩,
  ⟨(some 28), .isl 1 (.t 26) (.t 27), none, none, [], none⟩,
  ⟨(some 29), .load none (.t 28), none, none, [], none⟩,
  ⟨(some 30), .call false 38 [(.t 25), (.t 29)], none, none, [], none⟩,
  ⟨(some 31), .un .not (.t 30), none, none, [], none⟩]
def ac_field_Row_11 : AC := .reg l_field_Row_11
def l_field_Row_12 : List AOp := [⟨(some 4), .mv (.k (.str [])), none, none, [], none⟩,
  ⟨(some 5), .mv (.k (.int .i64 2)), none, none, [], none⟩]
def ac_field_Row_12 : AC := .reg l_field_Row_12
def ac_field_Row_13 : AC := .seq ac_field_Row_12 .ret
def ac_field_Row_14 : AC := .cond (.t 31) ac_field_Row_13 .skip
def ac_field_Row_15 : AC := .seq ac_field_Row_11 ac_field_Row_14
def l_field_Row_16 : List AOp := [⟨(some 32), .mv (.t 8), none, none, [], none⟩,
  ⟨(some 33), .mv (.t 1), none, none, [], none⟩,
  ⟨(some 34), .mv (.t 7), none, none, [], none⟩,
  ⟨(some 35), .isl 1 (.t 33) (.t 34), none, none, [], none⟩,
  ⟨(some 36), .load none (.t 35), none, none, [], none⟩,
  ⟨(some 37), .call false 40 [(.t 32), (.t 36)], none, none, [], none⟩,
  ⟨(some 38), .icall 39 [(.t 6), (.t 37)], none, none, [], none⟩]
def ac_field_Row_16 : AC := .reg l_field_Row_16
def ac_field_Row_17 : AC := .seq ac_field_Row_15 ac_field_Row_16
def ac_field_Row_18 : AC := .seq ac_field_Row_10 ac_field_Row_17
def ac_field_Row_19 : AC := .block 1 ac_field_Row_18
def l_field_Row_20 : List AOp := [⟨(some 39), .bin .add (.t 20) (.k (.int .i64 1)), none, none, [], none⟩,
  ⟨(some 20), .mv (.t 39), none, none, [], none⟩]
def ac_field_Row_20 : AC := .reg l_field_Row_20
def ac_field_Row_21 : AC := .seq ac_field_Row_19 ac_field_Row_20
def ac_field_Row_22 : AC := .seq ac_field_Row_9 ac_field_Row_21
def ac_field_Row_23 : AC := .seq ac_field_Row_8 ac_field_Row_22
def ac_field_Row_24 : AC := .loop [1, 6, 18, 19, 20] 2 ac_field_Row_23
def ac_field_Row_25 : AC := .block 0 ac_field_Row_24
def ac_field_Row_26 : AC := .seq ac_field_Row_7 ac_field_Row_25
def l_field_Row_27 : List AOp := [⟨(some 40), .icall 41 [(.t 6)], none, none, [], none⟩,
  ⟨(some 4), .mv (.t 40), none, none, [], none⟩,
  ⟨(some 5), .mv (.k (.int .i64 0)), none, none, [], none⟩]
def ac_field_Row_27 : AC := .reg l_field_Row_27
def ac_field_Row_28 : AC := .seq ac_field_Row_27 .ret
def ac_field_Row_29 : AC := .seq ac_field_Row_26 ac_field_Row_28
def ac_field_Row_30 : AC := .seq ac_field_Row_6 ac_field_Row_29
def ac_field_Row_31 : AC := .seq ac_field_Row_5 ac_field_Row_30
def ac_field_Row_32 : AC := .seq ac_field_Row_0 ac_field_Row_31
def ac_field_Row : AC := ac_field_Row_32
theorem comp_field_Row : compF Try.prog [6, 1000039, 1000041] (drawR Try.prog [6, 1000039, 1000041] Try.f20.ntmps) [([1, 6, 18, 19, 20], 2)] 2 Try.f20 = some (ac_field_Row, [.t 4, .t 5]) := by kernel_rfl
def U_field_Row := (And.intro (And.intro (And.intro (And.intro (And.intro (And.intro @ac_field_Row.eq_1 (@mR _ _ ac_field_Row_0.eq_1)) (@mR _ _ ac_field_Row_1.eq_1)) (And.intro (And.intro (@mR _ _ ac_field_Row_2.eq_1) (@mU _ _ ac_field_Row_3.eq_1)) (@mU _ _ ac_field_Row_4.eq_1))) (And.intro (And.intro (And.intro (@mU _ _ ac_field_Row_5.eq_1) (@mR _ _ ac_field_Row_6.eq_1)) (@mR _ _ ac_field_Row_7.eq_1)) (And.intro (And.intro (@mR _ _ ac_field_Row_8.eq_1) (@mU _ _ ac_field_Row_9.eq_1)) (@mR _ _ ac_field_Row_10.eq_1)))) (And.intro (And.intro (And.intro (And.intro (@mR _ _ ac_field_Row_11.eq_1) (@mR _ _ ac_field_Row_12.eq_1)) (@mU _ _ ac_field_Row_13.eq_1)) (And.intro (And.intro (@mU _ _ ac_field_Row_14.eq_1) (@mU _ _ ac_field_Row_15.eq_1)) (@mR _ _ ac_field_Row_16.eq_1))) (And.intro (And.intro (And.intro (@mU _ _ ac_field_Row_17.eq_1) (@mU _ _ ac_field_Row_18.eq_1)) (@mU _ _ ac_field_Row_19.eq_1)) (And.intro (@mR _ _ ac_field_Row_20.eq_1) (@mU _ _ ac_field_Row_21.eq_1))))) (And.intro (And.intro (And.intro (And.intro (And.intro (@mU _ _ ac_field_Row_22.eq_1) (@mU _ _ ac_field_Row_23.eq_1)) (@mU _ _ ac_field_Row_24.eq_1)) (And.intro (And.intro (@mU _ _ ac_field_Row_25.eq_1) (@mU _ _ ac_field_Row_26.eq_1)) (@mR _ _ ac_field_Row_27.eq_1))) (And.intro (And.intro (And.intro (@mU _ _ ac_field_Row_28.eq_1) (@mU _ _ ac_field_Row_29.eq_1)) (@mU _ _ ac_field_Row_30.eq_1)) (And.intro (And.intro (@mU _ _ ac_field_Row_31.eq_1) (@mU _ _ ac_field_Row_32.eq_1)) @l_field_Row_0.eq_1))) (And.intro (And.intro (And.intro (And.intro @l_field_Row_1.eq_1 @l_field_Row_2.eq_1) @l_field_Row_6.eq_1) (And.intro (And.intro @l_field_Row_7.eq_1 @l_field_Row_8.eq_1) @l_field_Row_10.eq_1)) (And.intro (And.intro (And.intro @l_field_Row_11.eq_1 @l_field_Row_12.eq_1) @l_field_Row_16.eq_1) (And.intro @l_field_Row_20.eq_1 @l_field_Row_27.eq_1)))))

/- scoria/root.head -/
def l_root_head_0 : List AOp := [⟨(some 0), .mv (.k (.slc [])), none, none, [], none⟩]
def ac_root_head_0 : AC := .reg l_root_head_0
def l_root_head_1 : List AOp := [⟨(some 1), .blds false [(.int .i64 0)] 2 [(0, (.k (.int .i64 5))), (1, (.k (.int .i64 1)))], none, none, [], none⟩,
  ⟨(some 0), .mv (.t 1), none, none, [], none⟩]
def ac_root_head_1 : AC := .reg l_root_head_1
def ac_root_head_2 : AC := .seq ac_root_head_1 .ret
def ac_root_head_3 : AC := .seq ac_root_head_0 ac_root_head_2
def ac_root_head : AC := ac_root_head_3
theorem comp_root_head : compF Try.prog [] (drawR Try.prog [] Try.f21.ntmps) [] 0 Try.f21 = some (ac_root_head, [.t 0]) := by kernel_rfl
def U_root_head := (And.intro (And.intro (And.intro @ac_root_head.eq_1 (@mR _ _ ac_root_head_0.eq_1)) (And.intro (@mR _ _ ac_root_head_1.eq_1) (@mU _ _ ac_root_head_2.eq_1))) (And.intro (And.intro (@mU _ _ ac_root_head_3.eq_1) @l_root_head_0.eq_1) @l_root_head_1.eq_1))

/- scoria/root.each -/
def l_root_each_0 : List AOp := [⟨(some 0), .mv (.k (.slc [])), none, none, [], none⟩]
def ac_root_each_0 : AC := .reg l_root_each_0
def l_root_each_1 : List AOp := [⟨(some 1), .blds false [(.int .i64 0)] 4 [(0, (.k (.int .i64 2))), (1, (.k (.int .i64 4))), (2, (.k (.int .i64 2))), (3, (.k (.int .i64 1)))], none, none, [], none⟩,
  ⟨(some 0), .mv (.t 1), none, none, [], none⟩]
def ac_root_each_1 : AC := .reg l_root_each_1
def ac_root_each_2 : AC := .seq ac_root_each_1 .ret
def ac_root_each_3 : AC := .seq ac_root_each_0 ac_root_each_2
def ac_root_each : AC := ac_root_each_3
theorem comp_root_each : compF Try.prog [] (drawR Try.prog [] Try.f22.ntmps) [] 0 Try.f22 = some (ac_root_each, [.t 0]) := by kernel_rfl
def U_root_each := (And.intro (And.intro (And.intro @ac_root_each.eq_1 (@mR _ _ ac_root_each_0.eq_1)) (And.intro (@mR _ _ ac_root_each_1.eq_1) (@mU _ _ ac_root_each_2.eq_1))) (And.intro (And.intro (@mU _ _ ac_root_each_3.eq_1) @l_root_each_0.eq_1) @l_root_each_1.eq_1))

/- scoria/scoriaref12.May -/
def l_ref12_May_0 : List AOp := [⟨(some 4), .mv (.k (.bool false)), none, none, [], none⟩]
def ac_ref12_May_0 : AC := .reg l_ref12_May_0
def l_ref12_May_1 : List AOp := [⟨(some 7), .mv (.t 0), none, none, [], none⟩,
  ⟨(some 8), .bin .lss (.t 7) (.k (.int .i64 0)), none, none, [], none⟩,
  ⟨(some 9), .mv (.t 8), none, none, [], none⟩,
  ⟨(some 10), .mv (.t 0), (some (9, false)), none, [], none⟩,
  ⟨(some 11), .bin .gtr (.t 10) (.k (.int .i64 1099511627775)), (some (9, false)), none, [], none⟩,
  ⟨(some 12), .pick (.t 9) (.k (.bool true)) (.t 11), none, none, [], none⟩,
  ⟨(some 13), .mv (.t 12), none, none, [], none⟩,
  ⟨(some 14), .mv (.t 1), (some (13, false)), none, [], none⟩,
  ⟨(some 15), .len (.t 14), (some (13, false)), none, [], none⟩,
  ⟨(some 16), .bin .gtr (.t 15) (.k (.int .i64 8)), (some (13, false)), none, [], none⟩,
  ⟨(some 17), .pick (.t 13) (.k (.bool true)) (.t 16), none, none, [], none⟩]
def ac_ref12_May_1 : AC := .reg l_ref12_May_1
def l_ref12_May_2 : List AOp := [⟨(some 4), .mv (.k (.bool false)), none, none, [], none⟩]
def ac_ref12_May_2 : AC := .reg l_ref12_May_2
def ac_ref12_May_3 : AC := .seq ac_ref12_May_2 .ret
def ac_ref12_May_4 : AC := .cond (.t 17) ac_ref12_May_3 .skip
def ac_ref12_May_5 : AC := .seq ac_ref12_May_1 ac_ref12_May_4
def l_ref12_May_6 : List AOp := [⟨(some 5), .mv (.k (.int .i64 0)), none, none, [], none⟩]
def ac_ref12_May_6 : AC := .reg l_ref12_May_6
def l_ref12_May_7 : List AOp := [⟨(some 18), .mv (.t 5), none, none, [], none⟩,
  ⟨(some 19), .mv (.t 1), none, none, [], none⟩,
  ⟨(some 20), .len (.t 19), none, none, [], none⟩,
  ⟨(some 21), .bin .lss (.t 18) (.t 20), none, none, [], none⟩]
def ac_ref12_May_7 : AC := .reg l_ref12_May_7
def ac_ref12_May_8 : AC := .cond (.t 21) .skip (.exit 0)
def ac_ref12_May_9 : AC := .seq ac_ref12_May_7 ac_ref12_May_8
def l_ref12_May_10 : List AOp := [⟨(some 24), .mv (.t 1), none, none, [], none⟩,
  ⟨(some 25), .mv (.t 5), none, none, [], none⟩,
  ⟨(some 26), .isl 4 (.t 24) (.t 25), none, none, [], none⟩,
  ⟨(some 27), .load (some 4) (.t 26), none, none, [], none⟩,
  ⟨(some 6), .alloc [(.int .i64 0), (.int .i64 0), (.int .i64 0), (.int .i64 0)], none, none, [], none⟩,
  ⟨none, .store 4 (.t 6) (.t 27), none, none, [], none⟩]
def ac_ref12_May_10 : AC := .reg l_ref12_May_10
def l_ref12_May_11 : List AOp := [⟨(some 28), .faddr 0 (.t 6), none, none, [], none⟩,
  ⟨(some 29), .load none (.t 28), none, none, [], none⟩,
  ⟨(some 30), .bin .lss (.t 29) (.k (.int .i64 1)), none, none, [], none⟩,
  ⟨(some 31), .mv (.t 30), none, none, [], none⟩,
  ⟨(some 32), .faddr 0 (.t 6), (some (31, false)), none, [], none⟩,
  ⟨(some 33), .load none (.t 32), (some (31, false)), none, [], none⟩,
  ⟨(some 34), .bin .gtr (.t 33) (.k (.int .i64 65535)), (some (31, false)), none, [], none⟩,
  ⟨(some 35), .pick (.t 31) (.k (.bool true)) (.t 34), none, none, [], none⟩,
  ⟨(some 36), .mv (.t 35), none, none, [], none⟩,
  ⟨(some 37), .faddr 1 (.t 6), (some (36, false)), none, [], none⟩,
  ⟨(some 38), .load none (.t 37), (some (36, false)), none, [], none⟩,
  ⟨(some 39), .bin .lss (.t 38) (.k (.int .i64 0)), (some (36, false)), none, [], none⟩,
  ⟨(some 40), .pick (.t 36) (.k (.bool true)) (.t 39), none, none, [], none⟩,
  ⟨(some 41), .mv (.t 40), none, none, [], none⟩,
  ⟨(some 42), .faddr 1 (.t 6), (some (41, false)), none, [], none⟩,
  ⟨(some 43), .load none (.t 42), (some (41, false)), none, [], none⟩,
  ⟨(some 44), .bin .gtr (.t 43) (.k (.int .i64 16777216)), (some (41, false)), none, [], none⟩,
  ⟨(some 45), .pick (.t 41) (.k (.bool true)) (.t 44), none, none, [], none⟩,
  ⟨(some 46), .mv (.t 45), none, none, [], none⟩,
  ⟨(some 47), .faddr 3 (.t 6), (some (46, false)), none, [], none⟩,
  ⟨(some 48), .load none (.t 47), (some (46, false)), none, [], none⟩,
  ⟨(some 49), .bin .lss (.t 48) (.k (.int .i64 0)), (some (46, false)), none, [], none⟩,
  ⟨(some 50), .pick (.t 46) (.k (.bool true)) (.t 49), none, none, [], none⟩,
  ⟨(some 51), .mv (.t 50), none, none, [], none⟩,
  ⟨(some 52), .faddr 3 (.t 6), (some (51, false)), none, [], none⟩,
  ⟨(some 53), .load none (.t 52), (some (51, false)), none, [], none⟩,
  ⟨(some 54), .bin .gtr (.t 53) (.k (.int .i64 6)), (some (51, false)), none, [], none⟩,
  ⟨(some 55), .pick (.t 51) (.k (.bool true)) (.t 54), none, none, [], none⟩]
def ac_ref12_May_11 : AC := .reg l_ref12_May_11
def l_ref12_May_12 : List AOp := [⟨(some 4), .mv (.k (.bool false)), none, none, [], none⟩]
def ac_ref12_May_12 : AC := .reg l_ref12_May_12
def ac_ref12_May_13 : AC := .seq ac_ref12_May_12 .ret
def ac_ref12_May_14 : AC := .cond (.t 55) ac_ref12_May_13 .skip
def ac_ref12_May_15 : AC := .seq ac_ref12_May_11 ac_ref12_May_14
def l_ref12_May_16 : List AOp := [⟨(some 56), .faddr 3 (.t 6), none, none, [], none⟩,
  ⟨(some 57), .load none (.t 56), none, none, [], none⟩,
  ⟨(some 58), .bin .eql (.t 57) (.k (.int .i64 0)), none, none, [], none⟩,
  ⟨(some 59), .mv (.t 58), none, none, [], none⟩,
  ⟨(some 60), .faddr 2 (.t 6), (some (59, true)), none, [], none⟩,
  ⟨(some 61), .load none (.t 60), (some (59, true)), none, [], none⟩,
  ⟨(some 62), .bin .neq (.t 61) (.k (.int .i64 (-1))), (some (59, true)), none, [], none⟩,
  ⟨(some 63), .pick (.t 59) (.t 62) (.k (.bool false)), none, none, [], none⟩,
  ⟨(some 64), .mv (.t 63), none, none, [], none⟩,
  ⟨(some 65), .faddr 3 (.t 6), (some (64, false)), none, [], none⟩,
  ⟨(some 66), .load none (.t 65), (some (64, false)), none, [], none⟩,
  ⟨(some 67), .bin .gtr (.t 66) (.k (.int .i64 0)), (some (64, false)), none, [], none⟩,
  ⟨(some 68), .mv (.t 67), (some (64, false)), none, [], none⟩,
  ⟨(some 69), .faddr 2 (.t 6), (some (68, true)), none, [], none⟩,
  ⟨(some 70), .load none (.t 69), (some (68, true)), none, [], none⟩,
  ⟨(some 71), .bin .lss (.t 70) (.k (.int .i64 0)), (some (68, true)), none, [], none⟩,
  ⟨(some 72), .mv (.t 71), (some (68, true)), none, [], none⟩,
  ⟨(some 73), .faddr 2 (.t 6), (some (72, false)), none, [], none⟩,
  ⟨(some 74), .load none (.t 73), (some (72, false)), none, [], none⟩,
  ⟨(some 75), .bin .gtr (.t 74) (.k (.int .i64 2047)), (some (72, false)), none, [], none⟩,
  ⟨(some 76), .pick (.t 72) (.k (.bool true)) (.t 75), (some (68, true)), none, [], none⟩,
  ⟨(some 77), .pick (.t 68) (.t 76) (.k (.bool false)), (some (64, false)), none, [], none⟩,
  ⟨(some 78), .pick (.t 64) (.k (.bool true)) (.t 77), none, none, [], none⟩]
def ac_ref12_May_16 : AC := .reg l_ref12_May_16
def l_ref12_May_17 : List AOp := [⟨(some 4), .mv (.k (.bool false)), none, none, [], none⟩]
def ac_ref12_May_17 : AC := .reg l_ref12_May_17
def ac_ref12_May_18 : AC := .seq ac_ref12_May_17 .ret
def ac_ref12_May_19 : AC := .cond (.t 78) ac_ref12_May_18 .skip
def ac_ref12_May_20 : AC := .seq ac_ref12_May_16 ac_ref12_May_19
def l_ref12_May_21 : List AOp := [⟨(some 79), .mv (.t 5), none, none, [], none⟩,
  ⟨(some 80), .bin .gtr (.t 79) (.k (.int .i64 0)), none, none, [], none⟩,
  ⟨(some 81), .mv (.t 80), none, none, [], none⟩,
  ⟨(some 82), .faddr 0 (.t 6), (some (81, true)), none, [], none⟩,
  ⟨(some 83), .load none (.t 82), (some (81, true)), none, [], none⟩,
  ⟨(some 84), .mv (.t 1), (some (81, true)), none, [], none⟩,
  ⟨(some 85), .mv (.t 5), (some (81, true)), none, [], none⟩,
  ⟨(some 86), .bin .sub (.t 85) (.k (.int .i64 1)), (some (81, true)), none, [], none⟩,
  ⟨(some 87), .isl 4 (.t 84) (.t 86), (some (81, true)), none, [], none⟩,
  ⟨(some 88), .faddr 0 (.t 87), (some (81, true)), none, [], none⟩,
  ⟨(some 89), .load none (.t 88), (some (81, true)), none, [], none⟩,
  ⟨(some 90), .bin .leq (.t 83) (.t 89), (some (81, true)), none, [], none⟩,
  ⟨(some 91), .pick (.t 81) (.t 90) (.k (.bool false)), none, none, [], none⟩]
def ac_ref12_May_21 : AC := .dreg 0 l_ref12_May_21
def l_ref12_May_22 : List AOp := [⟨(some 4), .mv (.k (.bool false)), none, none, [], none⟩]
def ac_ref12_May_22 : AC := .reg l_ref12_May_22
def ac_ref12_May_23 : AC := .seq ac_ref12_May_22 .ret
def ac_ref12_May_24 : AC := .cond (.t 91) ac_ref12_May_23 .skip
def ac_ref12_May_25 : AC := .seq ac_ref12_May_21 ac_ref12_May_24
def ac_ref12_May_26 : AC := .seq ac_ref12_May_20 ac_ref12_May_25
def ac_ref12_May_27 : AC := .seq ac_ref12_May_15 ac_ref12_May_26
def ac_ref12_May_28 : AC := .seq ac_ref12_May_10 ac_ref12_May_27
def ac_ref12_May_29 : AC := .block 1 ac_ref12_May_28
def l_ref12_May_30 : List AOp := [⟨(some 22), .mv (.t 5), none, none, [], none⟩,
  ⟨(some 23), .bin .add (.t 22) (.k (.int .i64 1)), none, none, [], none⟩,
  ⟨(some 5), .mv (.t 23), none, none, [], none⟩]
def ac_ref12_May_30 : AC := .reg l_ref12_May_30
def ac_ref12_May_31 : AC := .seq ac_ref12_May_29 ac_ref12_May_30
def ac_ref12_May_32 : AC := .seq ac_ref12_May_9 ac_ref12_May_31
def ac_ref12_May_33 : AC := .loop [1, 5] 0 ac_ref12_May_32
def ac_ref12_May_34 : AC := .block 0 ac_ref12_May_33
def ac_ref12_May_35 : AC := .seq ac_ref12_May_6 ac_ref12_May_34
def l_ref12_May_36 : List AOp := [⟨(some 4), .mv (.k (.bool true)), none, none, [], none⟩]
def ac_ref12_May_36 : AC := .reg l_ref12_May_36
def ac_ref12_May_37 : AC := .seq ac_ref12_May_36 .ret
def ac_ref12_May_38 : AC := .seq ac_ref12_May_35 ac_ref12_May_37
def ac_ref12_May_39 : AC := .seq ac_ref12_May_5 ac_ref12_May_38
def ac_ref12_May_40 : AC := .seq ac_ref12_May_0 ac_ref12_May_39
def ac_ref12_May : AC := ac_ref12_May_40
theorem comp_ref12_May : compF Try.prog [] (drawR Try.prog [] Try.f23.ntmps) [([1, 5], 0)] 2 Try.f23 = some (ac_ref12_May, [.t 4]) := by kernel_rfl
def U_ref12_May := (And.intro (And.intro (And.intro (And.intro (And.intro (And.intro @ac_ref12_May.eq_1 (@mR _ _ ac_ref12_May_0.eq_1)) (And.intro (@mR _ _ ac_ref12_May_1.eq_1) (@mR _ _ ac_ref12_May_2.eq_1))) (And.intro (And.intro (@mU _ _ ac_ref12_May_3.eq_1) (@mU _ _ ac_ref12_May_4.eq_1)) (@mU _ _ ac_ref12_May_5.eq_1))) (And.intro (And.intro (And.intro (@mR _ _ ac_ref12_May_6.eq_1) (@mR _ _ ac_ref12_May_7.eq_1)) (And.intro (@mU _ _ ac_ref12_May_8.eq_1) (@mU _ _ ac_ref12_May_9.eq_1))) (And.intro (And.intro (@mR _ _ ac_ref12_May_10.eq_1) (@mR _ _ ac_ref12_May_11.eq_1)) (@mR _ _ ac_ref12_May_12.eq_1)))) (And.intro (And.intro (And.intro (And.intro (@mU _ _ ac_ref12_May_13.eq_1) (@mU _ _ ac_ref12_May_14.eq_1)) (And.intro (@mU _ _ ac_ref12_May_15.eq_1) (@mR _ _ ac_ref12_May_16.eq_1))) (And.intro (And.intro (@mR _ _ ac_ref12_May_17.eq_1) (@mU _ _ ac_ref12_May_18.eq_1)) (@mU _ _ ac_ref12_May_19.eq_1))) (And.intro (And.intro (And.intro (@mU _ _ ac_ref12_May_20.eq_1) (@mD _ _ _ ac_ref12_May_21.eq_1)) (And.intro (@mR _ _ ac_ref12_May_22.eq_1) (@mU _ _ ac_ref12_May_23.eq_1))) (And.intro (And.intro (@mU _ _ ac_ref12_May_24.eq_1) (@mU _ _ ac_ref12_May_25.eq_1)) (@mU _ _ ac_ref12_May_26.eq_1))))) (And.intro (And.intro (And.intro (And.intro (And.intro (@mU _ _ ac_ref12_May_27.eq_1) (@mU _ _ ac_ref12_May_28.eq_1)) (And.intro (@mU _ _ ac_ref12_May_29.eq_1) (@mR _ _ ac_ref12_May_30.eq_1))) (And.intro (And.intro (@mU _ _ ac_ref12_May_31.eq_1) (@mU _ _ ac_ref12_May_32.eq_1)) (@mU _ _ ac_ref12_May_33.eq_1))) (And.intro (And.intro (And.intro (@mU _ _ ac_ref12_May_34.eq_1) (@mU _ _ ac_ref12_May_35.eq_1)) (And.intro (@mR _ _ ac_ref12_May_36.eq_1) (@mU _ _ ac_ref12_May_37.eq_1))) (And.intro (And.intro (@mU _ _ ac_ref12_May_38.eq_1) (@mU _ _ ac_ref12_May_39.eq_1)) (@mU _ _ ac_ref12_May_40.eq_1)))) (And.intro (And.intro (And.intro (And.intro @l_ref12_May_0.eq_1 @l_ref12_May_1.eq_1) (And.intro @l_ref12_May_2.eq_1 @l_ref12_May_6.eq_1)) (And.intro (And.intro @l_ref12_May_7.eq_1 @l_ref12_May_10.eq_1) @l_ref12_May_11.eq_1)) (And.intro (And.intro (And.intro @l_ref12_May_12.eq_1 @l_ref12_May_16.eq_1) (And.intro @l_ref12_May_17.eq_1 @l_ref12_May_21.eq_1)) (And.intro (And.intro @l_ref12_May_22.eq_1 @l_ref12_May_30.eq_1) @l_ref12_May_36.eq_1)))))

/- scoria/scoriaref12.put -/
def l_ref12_put_0 : List AOp := [⟨(some 4), .mv (.k (.str [])), none, none, [], none⟩]
def ac_ref12_put_0 : AC := .reg l_ref12_put_0
def l_ref12_put_1 : List AOp := [⟨(some 8), .mv (.t 0), none, none, [], none⟩,
  ⟨(some 9), .conv .u64 (.t 8), none, none, [], none⟩,
  ⟨(some 10), .mv (.t 1), none, none, [], none⟩,
  ⟨(some 11), .call false 42 [(.t 9), (.t 10)], none, none, [], none⟩,
  ⟨(some 7), .mv (.t 11), none, none, [], none⟩,
  ⟨(some 12), .ext 0 (.t 7), none, none, [], none⟩,
  ⟨(some 13), .ext 1 (.t 7), none, none, [], none⟩,
  ⟨(some 5), .mv (.t 12), none, none, [], none⟩,
  ⟨(some 6), .mv (.t 13), none, none, [], none⟩]
def ac_ref12_put_1 : AC := .reg l_ref12_put_1
def l_ref12_put_2 : List AOp := [⟨(some 14), .mv (.t 5), none, none, [], none⟩,
  ⟨(some 4), .mv (.t 14), none, none, [], none⟩]
def ac_ref12_put_2 : AC := .reg l_ref12_put_2
def ac_ref12_put_3 : AC := .seq ac_ref12_put_2 .ret
def ac_ref12_put_4 : AC := .seq ac_ref12_put_1 ac_ref12_put_3
def ac_ref12_put_5 : AC := .seq ac_ref12_put_0 ac_ref12_put_4
def ac_ref12_put : AC := ac_ref12_put_5
theorem comp_ref12_put : compF Try.prog [] (drawR Try.prog [] Try.f24.ntmps) [] 2 Try.f24 = some (ac_ref12_put, [.t 4]) := by kernel_rfl
def U_ref12_put := (And.intro (And.intro (And.intro (And.intro @ac_ref12_put.eq_1 (@mR _ _ ac_ref12_put_0.eq_1)) (@mR _ _ ac_ref12_put_1.eq_1)) (And.intro (@mR _ _ ac_ref12_put_2.eq_1) (@mU _ _ ac_ref12_put_3.eq_1))) (And.intro (And.intro (And.intro (@mU _ _ ac_ref12_put_4.eq_1) (@mU _ _ ac_ref12_put_5.eq_1)) @l_ref12_put_0.eq_1) (And.intro @l_ref12_put_1.eq_1 @l_ref12_put_2.eq_1)))

/- slices.IndexFunc[[]scoria/api.Space,scoria/api.Space] -/
def l_slices_IndexFunc_api_Space_0 : List AOp := [⟨(some 4), .mv (.k (.int .i64 0)), none, none, [], none⟩]
def ac_slices_IndexFunc_api_Space_0 : AC := .reg l_slices_IndexFunc_api_Space_0
def l_slices_IndexFunc_api_Space_1 : List AOp := [⟨(some 6), .mv (.t 0), none, none, [], none⟩,
  ⟨(some 7), .len (.t 6), none, none, [], none⟩,
  ⟨(some 8), .mv (.k (.int .i64 0)), none, none, [], none⟩]
def ac_slices_IndexFunc_api_Space_1 : AC := .reg l_slices_IndexFunc_api_Space_1
def l_slices_IndexFunc_api_Space_2 : List AOp := [⟨(some 9), .bin .lss (.t 8) (.t 7), none, none, [], none⟩]
def ac_slices_IndexFunc_api_Space_2 : AC := .reg l_slices_IndexFunc_api_Space_2
def ac_slices_IndexFunc_api_Space_3 : AC := .cond (.t 9) .skip (.exit 0)
def l_slices_IndexFunc_api_Space_4 : List AOp := [⟨(some 10), .mv (.t 8), none, none, [], none⟩,
  ⟨(some 5), .mv (.t 10), none, none, [], none⟩]
def ac_slices_IndexFunc_api_Space_4 : AC := .reg l_slices_IndexFunc_api_Space_4
def l_slices_IndexFunc_api_Space_5 : List AOp := [⟨(some 11), .mv (.t 1), none, none, [], none⟩,
  ⟨(some 12), .mv (.t 0), none, none, [], none⟩,
  ⟨(some 13), .mv (.t 5), none, none, [], none⟩,
  ⟨(some 14), .isl 4 (.t 12) (.t 13), none, none, [], none⟩,
  ⟨(some 15), .load (some 4) (.t 14), none, none, [], none⟩,
  ⟨(some 16), .callv (.t 11) [(.t 15)], none, none, [], none⟩]
def ac_slices_IndexFunc_api_Space_5 : AC := .reg l_slices_IndexFunc_api_Space_5
def l_slices_IndexFunc_api_Space_6 : List AOp := [⟨(some 17), .mv (.t 5), none, none, [], none⟩,
  ⟨(some 4), .mv (.t 17), none, none, [], none⟩]
def ac_slices_IndexFunc_api_Space_6 : AC := .reg l_slices_IndexFunc_api_Space_6
def ac_slices_IndexFunc_api_Space_7 : AC := .seq ac_slices_IndexFunc_api_Space_6 .ret
def ac_slices_IndexFunc_api_Space_8 : AC := .cond (.t 16) ac_slices_IndexFunc_api_Space_7 .skip
def ac_slices_IndexFunc_api_Space_9 : AC := .seq ac_slices_IndexFunc_api_Space_5 ac_slices_IndexFunc_api_Space_8
def ac_slices_IndexFunc_api_Space_10 : AC := .seq ac_slices_IndexFunc_api_Space_4 ac_slices_IndexFunc_api_Space_9
def ac_slices_IndexFunc_api_Space_11 : AC := .block 1 ac_slices_IndexFunc_api_Space_10
def l_slices_IndexFunc_api_Space_12 : List AOp := [⟨(some 18), .bin .add (.t 8) (.k (.int .i64 1)), none, none, [], none⟩,
  ⟨(some 8), .mv (.t 18), none, none, [], none⟩]
def ac_slices_IndexFunc_api_Space_12 : AC := .reg l_slices_IndexFunc_api_Space_12
def ac_slices_IndexFunc_api_Space_13 : AC := .seq ac_slices_IndexFunc_api_Space_11 ac_slices_IndexFunc_api_Space_12
def ac_slices_IndexFunc_api_Space_14 : AC := .seq ac_slices_IndexFunc_api_Space_3 ac_slices_IndexFunc_api_Space_13
def ac_slices_IndexFunc_api_Space_15 : AC := .seq ac_slices_IndexFunc_api_Space_2 ac_slices_IndexFunc_api_Space_14
def ac_slices_IndexFunc_api_Space_16 : AC := .loop [0, 1, 7, 8] 0 ac_slices_IndexFunc_api_Space_15
def ac_slices_IndexFunc_api_Space_17 : AC := .block 0 ac_slices_IndexFunc_api_Space_16
def ac_slices_IndexFunc_api_Space_18 : AC := .seq ac_slices_IndexFunc_api_Space_1 ac_slices_IndexFunc_api_Space_17
def l_slices_IndexFunc_api_Space_19 : List AOp := [⟨(some 4), .mv (.k (.int .i64 (-1))), none, none, [], none⟩]
def ac_slices_IndexFunc_api_Space_19 : AC := .reg l_slices_IndexFunc_api_Space_19
def ac_slices_IndexFunc_api_Space_20 : AC := .seq ac_slices_IndexFunc_api_Space_19 .ret
def ac_slices_IndexFunc_api_Space_21 : AC := .seq ac_slices_IndexFunc_api_Space_18 ac_slices_IndexFunc_api_Space_20
def ac_slices_IndexFunc_api_Space_22 : AC := .seq ac_slices_IndexFunc_api_Space_0 ac_slices_IndexFunc_api_Space_21
def ac_slices_IndexFunc_api_Space : AC := ac_slices_IndexFunc_api_Space_22
theorem comp_slices_IndexFunc_api_Space : compF Try.prog [] (drawR Try.prog [] Try.f25.ntmps) [([0, 1, 7, 8], 0)] 2 Try.f25 = some (ac_slices_IndexFunc_api_Space, [.t 4]) := by kernel_rfl
def U_slices_IndexFunc_api_Space := (And.intro (And.intro (And.intro (And.intro (And.intro @ac_slices_IndexFunc_api_Space.eq_1 (@mR _ _ ac_slices_IndexFunc_api_Space_0.eq_1)) (And.intro (@mR _ _ ac_slices_IndexFunc_api_Space_1.eq_1) (@mR _ _ ac_slices_IndexFunc_api_Space_2.eq_1))) (And.intro (And.intro (@mU _ _ ac_slices_IndexFunc_api_Space_3.eq_1) (@mR _ _ ac_slices_IndexFunc_api_Space_4.eq_1)) (And.intro (@mR _ _ ac_slices_IndexFunc_api_Space_5.eq_1) (@mR _ _ ac_slices_IndexFunc_api_Space_6.eq_1)))) (And.intro (And.intro (And.intro (@mU _ _ ac_slices_IndexFunc_api_Space_7.eq_1) (@mU _ _ ac_slices_IndexFunc_api_Space_8.eq_1)) (And.intro (@mU _ _ ac_slices_IndexFunc_api_Space_9.eq_1) (@mU _ _ ac_slices_IndexFunc_api_Space_10.eq_1))) (And.intro (And.intro (@mU _ _ ac_slices_IndexFunc_api_Space_11.eq_1) (@mR _ _ ac_slices_IndexFunc_api_Space_12.eq_1)) (And.intro (@mU _ _ ac_slices_IndexFunc_api_Space_13.eq_1) (@mU _ _ ac_slices_IndexFunc_api_Space_14.eq_1))))) (And.intro (And.intro (And.intro (And.intro (@mU _ _ ac_slices_IndexFunc_api_Space_15.eq_1) (@mU _ _ ac_slices_IndexFunc_api_Space_16.eq_1)) (And.intro (@mU _ _ ac_slices_IndexFunc_api_Space_17.eq_1) (@mU _ _ ac_slices_IndexFunc_api_Space_18.eq_1))) (And.intro (And.intro (@mR _ _ ac_slices_IndexFunc_api_Space_19.eq_1) (@mU _ _ ac_slices_IndexFunc_api_Space_20.eq_1)) (And.intro (@mU _ _ ac_slices_IndexFunc_api_Space_21.eq_1) (@mU _ _ ac_slices_IndexFunc_api_Space_22.eq_1)))) (And.intro (And.intro (And.intro @l_slices_IndexFunc_api_Space_0.eq_1 @l_slices_IndexFunc_api_Space_1.eq_1) (And.intro @l_slices_IndexFunc_api_Space_2.eq_1 @l_slices_IndexFunc_api_Space_4.eq_1)) (And.intro (And.intro @l_slices_IndexFunc_api_Space_5.eq_1 @l_slices_IndexFunc_api_Space_6.eq_1) (And.intro @l_slices_IndexFunc_api_Space_12.eq_1 @l_slices_IndexFunc_api_Space_19.eq_1)))))

/- scoria/root.Find$1 -/
def l_root_Find_c1_0 : List AOp := [⟨(some 2), .box (.t 0), none, none, [], none⟩,
  ⟨(some 3), .mv (.k (.bool false)), none, none, [], none⟩]
def ac_root_Find_c1_0 : AC := .reg l_root_Find_c1_0
def l_root_Find_c1_1 : List AOp := [⟨(some 4), .faddr 0 (.t 2), none, none, [], none⟩,
  ⟨(some 5), .load none (.t 4), none, none, [], none⟩,
  ⟨(some 6), .load none (.t 1), none, none, [], none⟩,
  ⟨(some 7), .bin .eql (.t 5) (.t 6), none, none, [], none⟩,
  ⟨(some 3), .mv (.t 7), none, none, [], none⟩]
def ac_root_Find_c1_1 : AC := .reg l_root_Find_c1_1
def ac_root_Find_c1_2 : AC := .seq ac_root_Find_c1_1 .ret
def ac_root_Find_c1_3 : AC := .seq ac_root_Find_c1_0 ac_root_Find_c1_2
def ac_root_Find_c1 : AC := ac_root_Find_c1_3
theorem comp_root_Find_c1 : compF Try.prog [] (drawR Try.prog [] Try.f26.ntmps) [] 2 Try.f26 = some (ac_root_Find_c1, [.t 3]) := by kernel_rfl
def U_root_Find_c1 := (And.intro (And.intro (And.intro @ac_root_Find_c1.eq_1 (@mR _ _ ac_root_Find_c1_0.eq_1)) (And.intro (@mR _ _ ac_root_Find_c1_1.eq_1) (@mU _ _ ac_root_Find_c1_2.eq_1))) (And.intro (And.intro (@mU _ _ ac_root_Find_c1_3.eq_1) @l_root_Find_c1_0.eq_1) @l_root_Find_c1_1.eq_1))

/- scoria/field.Take -/
def l_field_Take_0 : List AOp := [⟨(some 4), .nilown 1, none, none, [], none⟩,
  ⟨(some 5), .mv (.k (.str [])), none, none, [], none⟩,
  ⟨(some 6), .mv (.k (.int .i64 0)), none, none, [], none⟩]
def ac_field_Take_0 : AC := .reg l_field_Take_0
def l_field_Take_1 : List AOp := [⟨(some 12), .mv (.t 1), none, none, [], none⟩,
  ⟨(some 13), .call false 36 [(.t 12), (.k (.fn (.func 37) [] []))], none, none, [], none⟩]
def ac_field_Take_1 : AC := .reg l_field_Take_1
def l_field_Take_2 : List AOp := [⟨(some 4), .nilown 1, none, none, [], none⟩,
  ⟨(some 5), .mv (.k (.str [])), none, none, [], none⟩,
  ⟨(some 6), .mv (.k (.int .i64 1)), none, none, [], none⟩]
def ac_field_Take_2 : AC := .reg l_field_Take_2
def ac_field_Take_3 : AC := .seq ac_field_Take_2 .ret
def ac_field_Take_4 : AC := .cond (.t 13) ac_field_Take_3 .skip
def ac_field_Take_5 : AC := .seq ac_field_Take_1 ac_field_Take_4
def l_field_Take_6 : List AOp := [⟨(some 7), .mv (.k (.int .i64 0)), none, none, [], none⟩]
def ac_field_Take_6 : AC := .reg l_field_Take_6
def l_field_Take_7 : List AOp := [⟨(some 14), .mv (.t 1), none, none, [], none⟩,
  ⟨(some 15), .len (.t 14), none, none, [], none⟩,
  ⟨(some 16), .mv (.k (.int .i64 0)), none, none, [], none⟩]
def ac_field_Take_7 : AC := .reg l_field_Take_7
def l_field_Take_8 : List AOp := [⟨(some 17), .bin .lss (.t 16) (.t 15), none, none, [], none⟩]
def ac_field_Take_8 : AC := .reg l_field_Take_8
def ac_field_Take_9 : AC := .cond (.t 17) .skip (.exit 0)
def l_field_Take_10 : List AOp := [⟨(some 18), .isl 1 (.t 14) (.t 16), none, none, [], none⟩,
  ⟨(some 19), .load none (.t 18), none, none, [], none⟩,
  ⟨(some 9), .mv (.t 19), none, none, [], none⟩]
def ac_field_Take_10 : AC := .reg l_field_Take_10
def l_field_Take_11 : List AOp := [⟨(some 21), .mv (.t 0), none, none, [], none⟩,
  ⟨(some 22), .mv (.t 7), none, none, [], none⟩,
  ⟨(some 23), .mv (.t 9), none, none, [], none⟩,
  ⟨(some 24), .call false 43 [(.t 21), (.t 22), (.t 23)], none, none, [], none⟩,
  ⟨(some 20), .mv (.t 24), none, none, [], none⟩,
  ⟨(some 25), .ext 0 (.t 20), none, none, [], none⟩,
  ⟨(some 26), .ext 1 (.t 20), none, none, [], none⟩,
  ⟨(some 10), .mv (.t 25), none, none, [], none⟩,
  ⟨(some 11), .mv (.t 26), none, none, [], none⟩]
def ac_field_Take_11 : AC := .reg l_field_Take_11
def l_field_Take_12 : List AOp := [⟨(some 27), .mv (.t 11), none, none, [], none⟩,
  ⟨(some 28), .bin .neq (.t 27) (.k (.int .i64 0)), none, none, [], none⟩]
def ac_field_Take_12 : AC := .reg l_field_Take_12
def l_field_Take_13 : List AOp := [⟨(some 29), .mv (.t 11), none, none, [], none⟩,
  ⟨(some 4), .nilown 1, none, none, [], none⟩,
  ⟨(some 5), .mv (.k (.str [])), none, none, [], none⟩,
  ⟨(some 6), .mv (.t 29), none, none, [], none⟩]
def ac_field_Take_13 : AC := .reg l_field_Take_13
def ac_field_Take_14 : AC := .seq ac_field_Take_13 .ret
def ac_field_Take_15 : AC := .cond (.t 28) ac_field_Take_14 .skip
def ac_field_Take_16 : AC := .seq ac_field_Take_12 ac_field_Take_15
def l_field_Take_17 : List AOp := [⟨(some 30), .mv (.t 4), none, none, [], none⟩,
  ⟨(some 31), .mv (.t 10), none, none, [], none⟩,
  ⟨(some 32), .blds false [(.int .u64 0)] 1 [(0, (.t 31))], none, none, [], none⟩,
  ⟨(some 33), .app 1 8 [(.int .u64 0)] (.t 30) (.t 32), none, none, [], none⟩,
  ⟨(some 4), .mv (.t 33), none, none, [], none⟩]
def ac_field_Take_17 : AC := .reg l_field_Take_17
def l_field_Take_18 : List AOp := [⟨(some 34), .mv (.t 7), none, none, [], none⟩,
  ⟨(some 35), .mv (.t 9), none, none, [], none⟩,
  ⟨(some 36), .bin .add (.t 34) (.t 35), none, none, [], none⟩,
  ⟨(some 7), .mv (.t 36), none, none, [], none⟩]
def ac_field_Take_18 : AC := .reg l_field_Take_18
def ac_field_Take_19 : AC := .seq ac_field_Take_17 ac_field_Take_18
def ac_field_Take_20 : AC := .seq ac_field_Take_16 ac_field_Take_19
def ac_field_Take_21 : AC := .seq ac_field_Take_11 ac_field_Take_20
def ac_field_Take_22 : AC := .seq ac_field_Take_10 ac_field_Take_21
def ac_field_Take_23 : AC := .block 1 ac_field_Take_22
def l_field_Take_24 : List AOp := [⟨(some 37), .bin .add (.t 16) (.k (.int .i64 1)), none, none, [], none⟩,
  ⟨(some 16), .mv (.t 37), none, none, [], none⟩]
def ac_field_Take_24 : AC := .reg l_field_Take_24
def ac_field_Take_25 : AC := .seq ac_field_Take_23 ac_field_Take_24
def ac_field_Take_26 : AC := .seq ac_field_Take_9 ac_field_Take_25
def ac_field_Take_27 : AC := .seq ac_field_Take_8 ac_field_Take_26
def ac_field_Take_28 : AC := .loop [0, 4, 7, 14, 15, 16] 1 ac_field_Take_27
def ac_field_Take_29 : AC := .block 0 ac_field_Take_28
def ac_field_Take_30 : AC := .seq ac_field_Take_7 ac_field_Take_29
def l_field_Take_31 : List AOp := [⟨(some 38), .mv (.t 4), none, none, [], none⟩,
  ⟨(some 39), .mv (.t 0), none, none, [], none⟩,
  ⟨(some 40), .mv (.t 7), none, none, [], none⟩,
  ⟨(some 41), .sstr (.t 39) (some (.t 40)) none, none, none, [], none⟩,
  ⟨(some 4), .mv (.t 38), none, none, [], none⟩,
  ⟨(some 5), .mv (.t 41), none, none, [], none⟩,
  ⟨(some 6), .mv (.k (.int .i64 0)), none, none, [], none⟩]
def ac_field_Take_31 : AC := .dreg 0 l_field_Take_31
def ac_field_Take_32 : AC := .seq ac_field_Take_31 .ret
def ac_field_Take_33 : AC := .seq ac_field_Take_30 ac_field_Take_32
def ac_field_Take_34 : AC := .seq ac_field_Take_6 ac_field_Take_33
def ac_field_Take_35 : AC := .seq ac_field_Take_5 ac_field_Take_34
def ac_field_Take_36 : AC := .seq ac_field_Take_0 ac_field_Take_35
def ac_field_Take : AC := ac_field_Take_36
theorem comp_field_Take : compF Try.prog [4] (drawR Try.prog [4] Try.f27.ntmps) [([0, 4, 7, 14, 15, 16], 1)] 2 Try.f27 = some (ac_field_Take, [.t 4, .t 5, .t 6]) := by kernel_rfl
def U_field_Take := (And.intro (And.intro (And.intro (And.intro (And.intro (And.intro @ac_field_Take.eq_1 (@mR _ _ ac_field_Take_0.eq_1)) (And.intro (@mR _ _ ac_field_Take_1.eq_1) (@mR _ _ ac_field_Take_2.eq_1))) (And.intro (And.intro (@mU _ _ ac_field_Take_3.eq_1) (@mU _ _ ac_field_Take_4.eq_1)) (@mU _ _ ac_field_Take_5.eq_1))) (And.intro (And.intro (And.intro (@mR _ _ ac_field_Take_6.eq_1) (@mR _ _ ac_field_Take_7.eq_1)) (@mR _ _ ac_field_Take_8.eq_1)) (And.intro (And.intro (@mU _ _ ac_field_Take_9.eq_1) (@mR _ _ ac_field_Take_10.eq_1)) (@mR _ _ ac_field_Take_11.eq_1)))) (And.intro (And.intro (And.intro (And.intro (@mR _ _ ac_field_Take_12.eq_1) (@mR _ _ ac_field_Take_13.eq_1)) (And.intro (@mU _ _ ac_field_Take_14.eq_1) (@mU _ _ ac_field_Take_15.eq_1))) (And.intro (And.intro (@mU _ _ ac_field_Take_16.eq_1) (@mR _ _ ac_field_Take_17.eq_1)) (@mR _ _ ac_field_Take_18.eq_1))) (And.intro (And.intro (And.intro (@mU _ _ ac_field_Take_19.eq_1) (@mU _ _ ac_field_Take_20.eq_1)) (@mU _ _ ac_field_Take_21.eq_1)) (And.intro (And.intro (@mU _ _ ac_field_Take_22.eq_1) (@mU _ _ ac_field_Take_23.eq_1)) (@mR _ _ ac_field_Take_24.eq_1))))) (And.intro (And.intro (And.intro (And.intro (And.intro (@mU _ _ ac_field_Take_25.eq_1) (@mU _ _ ac_field_Take_26.eq_1)) (And.intro (@mU _ _ ac_field_Take_27.eq_1) (@mU _ _ ac_field_Take_28.eq_1))) (And.intro (And.intro (@mU _ _ ac_field_Take_29.eq_1) (@mU _ _ ac_field_Take_30.eq_1)) (@mD _ _ _ ac_field_Take_31.eq_1))) (And.intro (And.intro (And.intro (@mU _ _ ac_field_Take_32.eq_1) (@mU _ _ ac_field_Take_33.eq_1)) (@mU _ _ ac_field_Take_34.eq_1)) (And.intro (And.intro (@mU _ _ ac_field_Take_35.eq_1) (@mU _ _ ac_field_Take_36.eq_1)) @l_field_Take_0.eq_1))) (And.intro (And.intro (And.intro (And.intro @l_field_Take_1.eq_1 @l_field_Take_2.eq_1) (And.intro @l_field_Take_6.eq_1 @l_field_Take_7.eq_1)) (And.intro (And.intro @l_field_Take_8.eq_1 @l_field_Take_10.eq_1) @l_field_Take_11.eq_1)) (And.intro (And.intro (And.intro @l_field_Take_12.eq_1 @l_field_Take_13.eq_1) @l_field_Take_17.eq_1) (And.intro (And.intro @l_field_Take_18.eq_1 @l_field_Take_24.eq_1) @l_field_Take_31.eq_1)))))

/- scoria/root.top -/
def l_root_top_0 : List AOp := [⟨(some 4), .mv (.k (.int .i64 0)), none, none, [], none⟩]
def ac_root_top_0 : AC := .reg l_root_top_0
def l_root_top_1 : List AOp := [⟨(some 5), .mv (.t 1), none, none, [], none⟩,
  ⟨(some 6), .bin .eql (.t 5) (.k (.int .u64 0)), none, none, [], none⟩]
def ac_root_top_1 : AC := .reg l_root_top_1
def l_root_top_2 : List AOp := [⟨(some 4), .mv (.k (.int .i64 (-1))), none, none, [], none⟩]
def ac_root_top_2 : AC := .reg l_root_top_2
def ac_root_top_3 : AC := .seq ac_root_top_2 .ret
def ac_root_top_4 : AC := .cond (.t 6) ac_root_top_3 .skip
def ac_root_top_5 : AC := .seq ac_root_top_1 ac_root_top_4
def l_root_top_6 : List AOp := [⟨(some 7), .mv (.t 0), none, none, [], none⟩,
  ⟨(some 8), .conv .i64 (.t 7), none, none, [], none⟩,
  ⟨(some 4), .mv (.t 8), none, none, [], none⟩]
def ac_root_top_6 : AC := .reg l_root_top_6
def ac_root_top_7 : AC := .seq ac_root_top_6 .ret
def ac_root_top_8 : AC := .seq ac_root_top_5 ac_root_top_7
def ac_root_top_9 : AC := .seq ac_root_top_0 ac_root_top_8
def ac_root_top : AC := ac_root_top_9
theorem comp_root_top : compF Try.prog [] (drawR Try.prog [] Try.f28.ntmps) [] 2 Try.f28 = some (ac_root_top, [.t 4]) := by kernel_rfl
def U_root_top := (And.intro (And.intro (And.intro (And.intro @ac_root_top.eq_1 (@mR _ _ ac_root_top_0.eq_1)) (And.intro (@mR _ _ ac_root_top_1.eq_1) (@mR _ _ ac_root_top_2.eq_1))) (And.intro (And.intro (@mU _ _ ac_root_top_3.eq_1) (@mU _ _ ac_root_top_4.eq_1)) (And.intro (@mU _ _ ac_root_top_5.eq_1) (@mR _ _ ac_root_top_6.eq_1)))) (And.intro (And.intro (And.intro (@mU _ _ ac_root_top_7.eq_1) (@mU _ _ ac_root_top_8.eq_1)) (And.intro (@mU _ _ ac_root_top_9.eq_1) @l_root_top_0.eq_1)) (And.intro (And.intro @l_root_top_1.eq_1 @l_root_top_2.eq_1) @l_root_top_6.eq_1)))

/- scoria/scoriaref12.get -/
def l_ref12_get_0 : List AOp := [⟨(some 6), .mv (.k (.int .i64 0)), none, none, [], none⟩]
def ac_ref12_get_0 : AC := .reg l_ref12_get_0
def l_ref12_get_1 : List AOp := [⟨(some 10), .mv (.t 0), none, none, [], none⟩,
  ⟨(some 11), .mv (.t 1), none, none, [], none⟩,
  ⟨(some 12), .mv (.t 2), none, none, [], none⟩,
  ⟨(some 13), .call false 44 [(.t 10), (.t 11), (.t 12)], none, none, [], none⟩,
  ⟨(some 9), .mv (.t 13), none, none, [], none⟩,
  ⟨(some 14), .ext 0 (.t 9), none, none, [], none⟩,
  ⟨(some 15), .ext 1 (.t 9), none, none, [], none⟩,
  ⟨(some 7), .mv (.t 14), none, none, [], none⟩,
  ⟨(some 8), .mv (.t 15), none, none, [], none⟩]
def ac_ref12_get_1 : AC := .reg l_ref12_get_1
def l_ref12_get_2 : List AOp := [⟨(some 16), .mv (.t 7), none, none, [], none⟩,
  ⟨(some 17), .conv .i64 (.t 16), none, none, [], none⟩,
  ⟨(some 6), .mv (.t 17), none, none, [], none⟩]
def ac_ref12_get_2 : AC := .reg l_ref12_get_2
def ac_ref12_get_3 : AC := .seq ac_ref12_get_2 .ret
def ac_ref12_get_4 : AC := .seq ac_ref12_get_1 ac_ref12_get_3
def ac_ref12_get_5 : AC := .seq ac_ref12_get_0 ac_ref12_get_4
def ac_ref12_get : AC := ac_ref12_get_5
theorem comp_ref12_get : compF Try.prog [] (drawR Try.prog [] Try.f29.ntmps) [] 3 Try.f29 = some (ac_ref12_get, [.t 6]) := by kernel_rfl
def U_ref12_get := (And.intro (And.intro (And.intro (And.intro @ac_ref12_get.eq_1 (@mR _ _ ac_ref12_get_0.eq_1)) (@mR _ _ ac_ref12_get_1.eq_1)) (And.intro (@mR _ _ ac_ref12_get_2.eq_1) (@mU _ _ ac_ref12_get_3.eq_1))) (And.intro (And.intro (And.intro (@mU _ _ ac_ref12_get_4.eq_1) (@mU _ _ ac_ref12_get_5.eq_1)) @l_ref12_get_0.eq_1) (And.intro @l_ref12_get_1.eq_1 @l_ref12_get_2.eq_1)))

/- scoria/root.in -/
def l_root_in_0 : List AOp := [⟨(some 6), .mv (.k (.bool false)), none, none, [], none⟩]
def ac_root_in_0 : AC := .reg l_root_in_0
def l_root_in_1 : List AOp := [⟨(some 7), .mv (.t 0), none, none, [], none⟩,
  ⟨(some 8), .mv (.t 1), none, none, [], none⟩,
  ⟨(some 9), .bin .geq (.t 7) (.t 8), none, none, [], none⟩,
  ⟨(some 10), .mv (.t 9), none, none, [], none⟩,
  ⟨(some 11), .mv (.t 0), (some (10, true)), none, [], none⟩,
  ⟨(some 12), .mv (.t 2), (some (10, true)), none, [], none⟩,
  ⟨(some 13), .bin .leq (.t 11) (.t 12), (some (10, true)), none, [], none⟩,
  ⟨(some 14), .pick (.t 10) (.t 13) (.k (.bool false)), none, none, [], none⟩,
  ⟨(some 6), .mv (.t 14), none, none, [], none⟩]
def ac_root_in_1 : AC := .reg l_root_in_1
def ac_root_in_2 : AC := .seq ac_root_in_1 .ret
def ac_root_in_3 : AC := .seq ac_root_in_0 ac_root_in_2
def ac_root_in : AC := ac_root_in_3
theorem comp_root_in : compF Try.prog [] (drawR Try.prog [] Try.f34.ntmps) [] 3 Try.f34 = some (ac_root_in, [.t 6]) := by kernel_rfl
def U_root_in := (And.intro (And.intro (And.intro @ac_root_in.eq_1 (@mR _ _ ac_root_in_0.eq_1)) (And.intro (@mR _ _ ac_root_in_1.eq_1) (@mU _ _ ac_root_in_2.eq_1))) (And.intro (And.intro (@mU _ _ ac_root_in_3.eq_1) @l_root_in_0.eq_1) @l_root_in_1.eq_1))

/- scoria/root.space -/
def l_root_space_0 : List AOp := [⟨(some 1), .box (.t 0), none, none, [], none⟩,
  ⟨(some 2), .mv (.k (.bool false)), none, none, [], none⟩]
def ac_root_space_0 : AC := .reg l_root_space_0
def l_root_space_1 : List AOp := [⟨(some 3), .faddr 0 (.t 1), none, none, [], none⟩,
  ⟨(some 4), .load none (.t 3), none, none, [], none⟩,
  ⟨(some 5), .call false 34 [(.t 4), (.k (.int .i64 1)), (.k (.int .i64 65535))], none, none, [], none⟩,
  ⟨(some 6), .un .not (.t 5), none, none, [], none⟩,
  ⟨(some 7), .mv (.t 6), none, none, [], none⟩,
  ⟨(some 8), .faddr 1 (.t 1), (some (7, false)), none, [], none⟩,
  ⟨(some 9), .load none (.t 8), (some (7, false)), none, [], none⟩,
  ⟨(some 10), .call false 34 [(.t 9), (.k (.int .i64 0)), (.k (.int .i64 16777216))], (some (7, false)), none, [], none⟩,
  ⟨(some 11), .un .not (.t 10), (some (7, false)), none, [], none⟩,
  ⟨(some 12), .pick (.t 7) (.k (.bool true)) (.t 11), none, none, [], none⟩,
  ⟨(some 13), .mv (.t 12), none, none, [], none⟩,
  ⟨(some 14), .faddr 3 (.t 1), (some (13, false)), none, [], none⟩,
  ⟨(some 15), .load none (.t 14), (some (13, false)), none, [], none⟩,
  ⟨(some 16), .call false 34 [(.t 15), (.k (.int .i64 0)), (.k (.int .i64 6))], (some (13, false)), none, [], none⟩,
  ⟨(some 17), .un .not (.t 16), (some (13, false)), none, [], none⟩,
  ⟨(some 18), .pick (.t 13) (.k (.bool true)) (.t 17), none, none, [], none⟩]
def ac_root_space_1 : AC := .reg l_root_space_1
def l_root_space_2 : List AOp := [⟨(some 2), .mv (.k (.bool false)), none, none, [], none⟩]
def ac_root_space_2 : AC := .reg l_root_space_2
def ac_root_space_3 : AC := .seq ac_root_space_2 .ret
def ac_root_space_4 : AC := .cond (.t 18) ac_root_space_3 .skip
def ac_root_space_5 : AC := .seq ac_root_space_1 ac_root_space_4
def l_root_space_6 : List AOp := [⟨(some 19), .faddr 3 (.t 1), none, none, [], none⟩,
  ⟨(some 20), .load none (.t 19), none, none, [], none⟩,
  ⟨(some 21), .bin .eql (.t 20) (.k (.int .i64 0)), none, none, [], none⟩]
def ac_root_space_6 : AC := .reg l_root_space_6
def l_root_space_7 : List AOp := [⟨(some 22), .faddr 2 (.t 1), none, none, [], none⟩,
  ⟨(some 23), .load none (.t 22), none, none, [], none⟩,
  ⟨(some 24), .bin .eql (.t 23) (.k (.int .i64 (-1))), none, none, [], none⟩,
  ⟨(some 2), .mv (.t 24), none, none, [], none⟩]
def ac_root_space_7 : AC := .reg l_root_space_7
def ac_root_space_8 : AC := .seq ac_root_space_7 .ret
def ac_root_space_9 : AC := .cond (.t 21) ac_root_space_8 .skip
def ac_root_space_10 : AC := .seq ac_root_space_6 ac_root_space_9
def l_root_space_11 : List AOp := [⟨(some 25), .faddr 2 (.t 1), none, none, [], none⟩,
  ⟨(some 26), .load none (.t 25), none, none, [], none⟩,
  ⟨(some 27), .call false 34 [(.t 26), (.k (.int .i64 0)), (.k (.int .i64 2047))], none, none, [], none⟩,
  ⟨(some 2), .mv (.t 27), none, none, [], none⟩]
def ac_root_space_11 : AC := .reg l_root_space_11
def ac_root_space_12 : AC := .seq ac_root_space_11 .ret
def ac_root_space_13 : AC := .seq ac_root_space_10 ac_root_space_12
def ac_root_space_14 : AC := .seq ac_root_space_5 ac_root_space_13
def ac_root_space_15 : AC := .seq ac_root_space_0 ac_root_space_14
def ac_root_space : AC := ac_root_space_15
theorem comp_root_space : compF Try.prog [] (drawR Try.prog [] Try.f35.ntmps) [] 1 Try.f35 = some (ac_root_space, [.t 2]) := by kernel_rfl
def U_root_space := (And.intro (And.intro (And.intro (And.intro (And.intro @ac_root_space.eq_1 (@mR _ _ ac_root_space_0.eq_1)) (@mR _ _ ac_root_space_1.eq_1)) (And.intro (And.intro (@mR _ _ ac_root_space_2.eq_1) (@mU _ _ ac_root_space_3.eq_1)) (@mU _ _ ac_root_space_4.eq_1))) (And.intro (And.intro (And.intro (@mU _ _ ac_root_space_5.eq_1) (@mR _ _ ac_root_space_6.eq_1)) (@mR _ _ ac_root_space_7.eq_1)) (And.intro (And.intro (@mU _ _ ac_root_space_8.eq_1) (@mU _ _ ac_root_space_9.eq_1)) (@mU _ _ ac_root_space_10.eq_1)))) (And.intro (And.intro (And.intro (And.intro (@mR _ _ ac_root_space_11.eq_1) (@mU _ _ ac_root_space_12.eq_1)) (@mU _ _ ac_root_space_13.eq_1)) (And.intro (And.intro (@mU _ _ ac_root_space_14.eq_1) (@mU _ _ ac_root_space_15.eq_1)) @l_root_space_0.eq_1)) (And.intro (And.intro (And.intro @l_root_space_1.eq_1 @l_root_space_2.eq_1) @l_root_space_6.eq_1) (And.intro @l_root_space_7.eq_1 @l_root_space_11.eq_1))))

/- slices.ContainsFunc[[]int,int] -/
def l_slices_ContainsFunc_int_0 : List AOp := [⟨(some 4), .mv (.k (.bool false)), none, none, [], none⟩]
def ac_slices_ContainsFunc_int_0 : AC := .reg l_slices_ContainsFunc_int_0
def l_slices_ContainsFunc_int_1 : List AOp := [⟨(some 5), .mv (.t 0), none, none, [], none⟩,
  ⟨(some 6), .mv (.t 1), none, none, [], none⟩,
  ⟨(some 7), .call false 47 [(.t 5), (.t 6)], none, none, [], none⟩,
  ⟨(some 8), .bin .geq (.t 7) (.k (.int .i64 0)), none, none, [], none⟩,
  ⟨(some 4), .mv (.t 8), none, none, [], none⟩]
def ac_slices_ContainsFunc_int_1 : AC := .reg l_slices_ContainsFunc_int_1
def ac_slices_ContainsFunc_int_2 : AC := .seq ac_slices_ContainsFunc_int_1 .ret
def ac_slices_ContainsFunc_int_3 : AC := .seq ac_slices_ContainsFunc_int_0 ac_slices_ContainsFunc_int_2
def ac_slices_ContainsFunc_int : AC := ac_slices_ContainsFunc_int_3
theorem comp_slices_ContainsFunc_int : compF Try.prog [] (drawR Try.prog [] Try.f36.ntmps) [] 2 Try.f36 = some (ac_slices_ContainsFunc_int, [.t 4]) := by kernel_rfl
def U_slices_ContainsFunc_int := (And.intro (And.intro (And.intro @ac_slices_ContainsFunc_int.eq_1 (@mR _ _ ac_slices_ContainsFunc_int_0.eq_1)) (And.intro (@mR _ _ ac_slices_ContainsFunc_int_1.eq_1) (@mU _ _ ac_slices_ContainsFunc_int_2.eq_1))) (And.intro (And.intro (@mU _ _ ac_slices_ContainsFunc_int_3.eq_1) @l_slices_ContainsFunc_int_0.eq_1) @l_slices_ContainsFunc_int_1.eq_1))

/- scoria/field.wrong -/
def l_field_wrong_0 : List AOp := [⟨(some 2), .mv (.k (.bool false)), none, none, [], none⟩]
def ac_field_wrong_0 : AC := .reg l_field_wrong_0
def l_field_wrong_1 : List AOp := [⟨(some 3), .mv (.t 0), none, none, [], none⟩,
  ⟨(some 4), .call false 48 [(.t 3)], none, none, [], none⟩,
  ⟨(some 5), .un .not (.t 4), none, none, [], none⟩,
  ⟨(some 2), .mv (.t 5), none, none, [], none⟩]
def ac_field_wrong_1 : AC := .reg l_field_wrong_1
def ac_field_wrong_2 : AC := .seq ac_field_wrong_1 .ret
def ac_field_wrong_3 : AC := .seq ac_field_wrong_0 ac_field_wrong_2
def ac_field_wrong : AC := ac_field_wrong_3
theorem comp_field_wrong : compF Try.prog [] (drawR Try.prog [] Try.f37.ntmps) [] 1 Try.f37 = some (ac_field_wrong, [.t 2]) := by kernel_rfl
def U_field_wrong := (And.intro (And.intro (And.intro @ac_field_wrong.eq_1 (@mR _ _ ac_field_wrong_0.eq_1)) (And.intro (@mR _ _ ac_field_wrong_1.eq_1) (@mU _ _ ac_field_wrong_2.eq_1))) (And.intro (And.intro (@mU _ _ ac_field_wrong_3.eq_1) @l_field_wrong_0.eq_1) @l_field_wrong_1.eq_1))

/- scoria/field.fits -/
def l_field_fits_0 : List AOp := [⟨(some 4), .mv (.k (.bool false)), none, none, [], none⟩]
def ac_field_fits_0 : AC := .reg l_field_fits_0
def l_field_fits_1 : List AOp := [⟨(some 5), .mv (.t 1), none, none, [], none⟩,
  ⟨(some 6), .bin .eql (.t 5) (.k (.int .i64 8)), none, none, [], none⟩,
  ⟨(some 7), .mv (.t 6), none, none, [], none⟩,
  ⟨(some 8), .mv (.t 0), (some (7, false)), none, [], none⟩,
  ⟨(some 9), .mv (.t 1), (some (7, false)), none, [], none⟩,
  ⟨(some 10), .bin .mul (.k (.int .i64 8)) (.t 9), (some (7, false)), none, [], none⟩,
  ⟨(some 11), .bin .shr (.t 8) (.t 10), (some (7, false)), none, [], none⟩,
  ⟨(some 12), .bin .eql (.t 11) (.k (.int .u64 0)), (some (7, false)), none, [], none⟩,
  ⟨(some 13), .pick (.t 7) (.k (.bool true)) (.t 12), none, none, [], none⟩,
  ⟨(some 4), .mv (.t 13), none, none, [], none⟩]
def ac_field_fits_1 : AC := .reg l_field_fits_1
def ac_field_fits_2 : AC := .seq ac_field_fits_1 .ret
def ac_field_fits_3 : AC := .seq ac_field_fits_0 ac_field_fits_2
def ac_field_fits : AC := ac_field_fits_3
theorem comp_field_fits : compF Try.prog [] (drawR Try.prog [] Try.f38.ntmps) [] 2 Try.f38 = some (ac_field_fits, [.t 4]) := by kernel_rfl
def U_field_fits := (And.intro (And.intro (And.intro @ac_field_fits.eq_1 (@mR _ _ ac_field_fits_0.eq_1)) (And.intro (@mR _ _ ac_field_fits_1.eq_1) (@mU _ _ ac_field_fits_2.eq_1))) (And.intro (And.intro (@mU _ _ ac_field_fits_3.eq_1) @l_field_fits_0.eq_1) @l_field_fits_1.eq_1))

/- (*strings.Builder).WriteString -/
def l_strings_Builder_WriteString_0 : List AOp := [⟨(some 4), .mv (.k (.int .i64 0)), none, none, [], none⟩,
  ⟨(some 5), .mv (.k .nili), none, none, [], none⟩]
def ac_strings_Builder_WriteString_0 : AC := .reg l_strings_Builder_WriteString_0
def l_strings_Builder_WriteString_1 : List AOp := [⟨(some 6), .mv (.t 0), none, none, [], none⟩,
  ⟨(some 7), .icall 49 [(.t 6)], none, none, [], none⟩]
def ac_strings_Builder_WriteString_1 : AC := .reg l_strings_Builder_WriteString_1
def l_strings_Builder_WriteString_2 : List AOp := [⟨(some 8), .mv (.t 0), none, none, [], none⟩,
  ⟨(some 9), .mv (.t 0), none, none, [], none⟩,
  ⟨(some 10), .nilck (.t 9), none, none, [], none⟩,
  ⟨(some 11), .faddr 1 (.t 10), none, none, [], none⟩,
  ⟨(some 12), .load none (.t 11), none, none, [], none⟩,
  ⟨(some 13), .mv (.t 1), none, none, [], none⟩,
  ⟨(some 14), .apps 5 (.t 12) (.t 13), none, none, [], none⟩,
  ⟨(some 15), .nilck (.t 8), none, none, [], none⟩,
  ⟨(some 16), .faddr 1 (.t 15), none, none, [], none⟩,
  ⟨none, .store 1 (.t 16) (.t 14), none, none, [], none⟩]
def ac_strings_Builder_WriteString_2 : AC := .reg l_strings_Builder_WriteString_2
def l_strings_Builder_WriteString_3 : List AOp := [⟨(some 17), .mv (.t 1), none, none, [], none⟩,
  ⟨(some 18), .lens (.t 17), none, none, [], none⟩,
  ⟨(some 4), .mv (.t 18), none, none, [], none⟩,
  ⟨(some 5), .mv (.k .nili), none, none, [], none⟩]
def ac_strings_Builder_WriteString_3 : AC := .reg l_strings_Builder_WriteString_3
def ac_strings_Builder_WriteString_4 : AC := .seq ac_strings_Builder_WriteString_3 .ret
def ac_strings_Builder_WriteString_5 : AC := .seq ac_strings_Builder_WriteString_2 ac_strings_Builder_WriteString_4
def ac_strings_Builder_WriteString_6 : AC := .seq ac_strings_Builder_WriteString_1 ac_strings_Builder_WriteString_5
def ac_strings_Builder_WriteString_7 : AC := .seq ac_strings_Builder_WriteString_0 ac_strings_Builder_WriteString_6
def ac_strings_Builder_WriteString : AC := ac_strings_Builder_WriteString_7
theorem comp_strings_Builder_WriteString : compF Try.prog [1000049] (drawR Try.prog [1000049] Try.f39.ntmps) [] 2 Try.f39 = some (ac_strings_Builder_WriteString, [.t 4, .t 5]) := by kernel_rfl
def U_strings_Builder_WriteString := (And.intro (And.intro (And.intro (And.intro @ac_strings_Builder_WriteString.eq_1 (@mR _ _ ac_strings_Builder_WriteString_0.eq_1)) (And.intro (@mR _ _ ac_strings_Builder_WriteString_1.eq_1) (@mR _ _ ac_strings_Builder_WriteString_2.eq_1))) (And.intro (And.intro (@mR _ _ ac_strings_Builder_WriteString_3.eq_1) (@mU _ _ ac_strings_Builder_WriteString_4.eq_1)) (@mU _ _ ac_strings_Builder_WriteString_5.eq_1))) (And.intro (And.intro (And.intro (@mU _ _ ac_strings_Builder_WriteString_6.eq_1) (@mU _ _ ac_strings_Builder_WriteString_7.eq_1)) @l_strings_Builder_WriteString_0.eq_1) (And.intro (And.intro @l_strings_Builder_WriteString_1.eq_1 @l_strings_Builder_WriteString_2.eq_1) @l_strings_Builder_WriteString_3.eq_1)))

/- scoria/field.laid -/
def l_field_laid_0 : List AOp := [⟨(some 4), .mv (.k (.str [])), none, none, [], none⟩]
def ac_field_laid_0 : AC := .reg l_field_laid_0
def l_field_laid_1 : List AOp := [⟨(some 5), .alloc (List.replicate 8 (.int .u8 0)), none, none, [], none⟩]
def ac_field_laid_1 : AC := .reg l_field_laid_1
def l_field_laid_2 : List AOp := [⟨(some 6), .mv (.t 1), none, none, [], none⟩]
def ac_field_laid_2 : AC := .reg l_field_laid_2
def l_field_laid_3 : List AOp := [⟨(some 8), .bin .eql (.t 6) (.k (.int .i64 8)), none, none, [], none⟩,
  ⟨(some 7), .mv (.t 8), none, none, [], none⟩]
def ac_field_laid_3 : AC := .reg l_field_laid_3
def ac_field_laid_4 : AC := .cond (.t 7) (.exit 1) .skip
def ac_field_laid_5 : AC := .seq ac_field_laid_3 ac_field_laid_4
def l_field_laid_6 : List AOp := [⟨(some 10), .bin .eql (.t 6) (.k (.int .i64 7)), none, none, [], none⟩,
  ⟨(some 9), .mv (.t 10), none, none, [], none⟩]
def ac_field_laid_6 : AC := .reg l_field_laid_6
def ac_field_laid_7 : AC := .cond (.t 9) (.exit 2) .skip
def ac_field_laid_8 : AC := .seq ac_field_laid_6 ac_field_laid_7
def l_field_laid_9 : List AOp := [⟨(some 12), .bin .eql (.t 6) (.k (.int .i64 6)), none, none, [], none⟩,
  ⟨(some 11), .mv (.t 12), none, none, [], none⟩]
def ac_field_laid_9 : AC := .reg l_field_laid_9
def ac_field_laid_10 : AC := .cond (.t 11) (.exit 3) .skip
def ac_field_laid_11 : AC := .seq ac_field_laid_9 ac_field_laid_10
def l_field_laid_12 : List AOp := [⟨(some 14), .bin .eql (.t 6) (.k (.int .i64 5)), none, none, [], none⟩,
  ⟨(some 13), .mv (.t 14), none, none, [], none⟩]
def ac_field_laid_12 : AC := .reg l_field_laid_12
def ac_field_laid_13 : AC := .cond (.t 13) (.exit 4) .skip
def ac_field_laid_14 : AC := .seq ac_field_laid_12 ac_field_laid_13
def l_field_laid_15 : List AOp := [⟨(some 16), .bin .eql (.t 6) (.k (.int .i64 4)), none, none, [], none⟩,
  ⟨(some 15), .mv (.t 16), none, none, [], none⟩]
def ac_field_laid_15 : AC := .reg l_field_laid_15
def ac_field_laid_16 : AC := .cond (.t 15) (.exit 5) .skip
def ac_field_laid_17 : AC := .seq ac_field_laid_15 ac_field_laid_16
def l_field_laid_18 : List AOp := [⟨(some 18), .bin .eql (.t 6) (.k (.int .i64 3)), none, none, [], none⟩,
  ⟨(some 17), .mv (.t 18), none, none, [], none⟩]
def ac_field_laid_18 : AC := .reg l_field_laid_18
def ac_field_laid_19 : AC := .cond (.t 17) (.exit 6) .skip
def ac_field_laid_20 : AC := .seq ac_field_laid_18 ac_field_laid_19
def l_field_laid_21 : List AOp := [⟨(some 20), .bin .eql (.t 6) (.k (.int .i64 2)), none, none, [], none⟩,
  ⟨(some 19), .mv (.t 20), none, none, [], none⟩]
def ac_field_laid_21 : AC := .reg l_field_laid_21
def ac_field_laid_22 : AC := .cond (.t 19) (.exit 7) .skip
def ac_field_laid_23 : AC := .seq ac_field_laid_21 ac_field_laid_22
def l_field_laid_24 : List AOp := [⟨(some 22), .bin .eql (.t 6) (.k (.int .i64 1)), none, none, [], none⟩,
  ⟨(some 21), .mv (.t 22), none, none, [], none⟩]
def ac_field_laid_24 : AC := .reg l_field_laid_24
def ac_field_laid_25 : AC := .cond (.t 21) (.exit 8) .skip
def ac_field_laid_26 : AC := .seq ac_field_laid_24 ac_field_laid_25
def ac_field_laid_27 : AC := .seq ac_field_laid_23 ac_field_laid_26
def ac_field_laid_28 : AC := .seq ac_field_laid_20 ac_field_laid_27
def ac_field_laid_29 : AC := .seq ac_field_laid_17 ac_field_laid_28
def ac_field_laid_30 : AC := .seq ac_field_laid_14 ac_field_laid_29
def ac_field_laid_31 : AC := .seq ac_field_laid_11 ac_field_laid_30
def ac_field_laid_32 : AC := .seq ac_field_laid_8 ac_field_laid_31
def ac_field_laid_33 : AC := .seq ac_field_laid_5 ac_field_laid_32
def ac_field_laid_34 : AC := .seq ac_field_laid_33 (.exit 0)
def ac_field_laid_35 : AC := .block 1 ac_field_laid_34
def l_field_laid_36 : List AOp := [⟨(some 23), .mv (.t 0), none, none, [], none⟩,
  ⟨(some 24), .bin .shr (.t 23) (.k (.int .u64 56)), none, none, [], none⟩,
  ⟨(some 25), .conv .u8 (.t 24), none, none, [], none⟩,
  ⟨(some 26), .iarr 1 8 (.t 5) (.k (.int .i64 7)), none, none, [], none⟩,
  ⟨none, .store 1 (.t 26) (.t 25), none, none, [], none⟩]
def ac_field_laid_36 : AC := .reg l_field_laid_36
def ac_field_laid_37 : AC := .seq ac_field_laid_35 ac_field_laid_36
def ac_field_laid_38 : AC := .block 2 ac_field_laid_37
def l_field_laid_39 : List AOp := [⟨(some 27), .mv (.t 0), none, none, [], none⟩,
  ⟨(some 28), .bin .shr (.t 27) (.k (.int .u64 48)), none, none, [], none⟩,
  ⟨(some 29), .conv .u8 (.t 28), none, none, [], none⟩,
  ⟨(some 30), .iarr 1 8 (.t 5) (.k (.int .i64 6)), none, none, [], none⟩,
  ⟨none, .store 1 (.t 30) (.t 29), none, none, [], none⟩]
def ac_field_laid_39 : AC := .reg l_field_laid_39
def ac_field_laid_40 : AC := .seq ac_field_laid_38 ac_field_laid_39
def ac_field_laid_41 : AC := .block 3 ac_field_laid_40
def l_field_laid_42 : List AOp := [⟨(some 31), .mv (.t 0), none, none, [], none⟩,
  ⟨(some 32), .bin .shr (.t 31) (.k (.int .u64 40)), none, none, [], none⟩,
  ⟨(some 33), .conv .u8 (.t 32), none, none, [], none⟩,
  ⟨(some 34), .iarr 1 8 (.t 5) (.k (.int .i64 5)), none, none, [], none⟩,
  ⟨none, .store 1 (.t 34) (.t 33), none, none, [], none⟩]
def ac_field_laid_42 : AC := .reg l_field_laid_42
def ac_field_laid_43 : AC := .seq ac_field_laid_41 ac_field_laid_42
def ac_field_laid_44 : AC := .block 4 ac_field_laid_43
def l_field_laid_45 : List AOp := [⟨(some 35), .mv (.t 0), none, none, [], none⟩,
  ⟨(some 36), .bin .shr (.t 35) (.k (.int .u64 32)), none, none, [], none⟩,
  ⟨(some 37), .conv .u8 (.t 36), none, none, [], none⟩,
  ⟨(some 38), .iarr 1 8 (.t 5) (.k (.int .i64 4)), none, none, [], none⟩,
  ⟨none, .store 1 (.t 38) (.t 37), none, none, [], none⟩]
def ac_field_laid_45 : AC := .reg l_field_laid_45
def ac_field_laid_46 : AC := .seq ac_field_laid_44 ac_field_laid_45
def ac_field_laid_47 : AC := .block 5 ac_field_laid_46
def l_field_laid_48 : List AOp := [⟨(some 39), .mv (.t 0), none, none, [], none⟩,
  ⟨(some 40), .bin .shr (.t 39) (.k (.int .u64 24)), none, none, [], none⟩,
  ⟨(some 41), .conv .u8 (.t 40), none, none, [], none⟩,
  ⟨(some 42), .iarr 1 8 (.t 5) (.k (.int .i64 3)), none, none, [], none⟩,
  ⟨none, .store 1 (.t 42) (.t 41), none, none, [], none⟩]
def ac_field_laid_48 : AC := .reg l_field_laid_48
def ac_field_laid_49 : AC := .seq ac_field_laid_47 ac_field_laid_48
def ac_field_laid_50 : AC := .block 6 ac_field_laid_49
def l_field_laid_51 : List AOp := [⟨(some 43), .mv (.t 0), none, none, [], none⟩,
  ⟨(some 44), .bin .shr (.t 43) (.k (.int .u64 16)), none, none, [], none⟩,
  ⟨(some 45), .conv .u8 (.t 44), none, none, [], none⟩,
  ⟨(some 46), .iarr 1 8 (.t 5) (.k (.int .i64 2)), none, none, [], none⟩,
  ⟨none, .store 1 (.t 46) (.t 45), none, none, [], none⟩]
def ac_field_laid_51 : AC := .reg l_field_laid_51
def ac_field_laid_52 : AC := .seq ac_field_laid_50 ac_field_laid_51
def ac_field_laid_53 : AC := .block 7 ac_field_laid_52
def l_field_laid_54 : List AOp := [⟨(some 47), .mv (.t 0), none, none, [], none⟩,
  ⟨(some 48), .bin .shr (.t 47) (.k (.int .u64 8)), none, none, [], none⟩,
  ⟨(some 49), .conv .u8 (.t 48), none, none, [], none⟩,
  ⟨(some 50), .iarr 1 8 (.t 5) (.k (.int .i64 1)), none, none, [], none⟩,
  ⟨none, .store 1 (.t 50) (.t 49), none, none, [], none⟩]
def ac_field_laid_54 : AC := .reg l_field_laid_54
def ac_field_laid_55 : AC := .seq ac_field_laid_53 ac_field_laid_54
def ac_field_laid_56 : AC := .block 8 ac_field_laid_55
def l_field_laid_57 : List AOp := [⟨(some 51), .mv (.t 0), none, none, [], none⟩,
  ⟨(some 52), .conv .u8 (.t 51), none, none, [], none⟩,
  ⟨(some 53), .iarr 1 8 (.t 5) (.k (.int .i64 0)), none, none, [], none⟩,
  ⟨none, .store 1 (.t 53) (.t 52), none, none, [], none⟩]
def ac_field_laid_57 : AC := .reg l_field_laid_57
def ac_field_laid_58 : AC := .seq ac_field_laid_57 (.exit 0)
def ac_field_laid_59 : AC := .seq ac_field_laid_56 ac_field_laid_58
def ac_field_laid_60 : AC := .block 0 ac_field_laid_59
def ac_field_laid_61 : AC := .seq ac_field_laid_2 ac_field_laid_60
def l_field_laid_62 : List AOp := [⟨(some 54), .mv (.t 1), none, none, [], none⟩,
  ⟨(some 55), .sarr 1 8 (.t 5) none (some (.t 54)), none, none, [], none⟩,
  ⟨(some 56), .b2s (.t 55), none, none, [], none⟩,
  ⟨(some 4), .mv (.t 56), none, none, [], none⟩]
def ac_field_laid_62 : AC := .reg l_field_laid_62
def ac_field_laid_63 : AC := .seq ac_field_laid_62 .ret
def ac_field_laid_64 : AC := .seq ac_field_laid_61 ac_field_laid_63
def ac_field_laid_65 : AC := .seq ac_field_laid_1 ac_field_laid_64
def ac_field_laid_66 : AC := .seq ac_field_laid_0 ac_field_laid_65
def ac_field_laid : AC := ac_field_laid_66
theorem comp_field_laid : compF Try.prog [] (drawR Try.prog [] Try.f40.ntmps) [] 2 Try.f40 = some (ac_field_laid, [.t 4]) := by kernel_rfl
def U_field_laid := (And.intro (And.intro (And.intro (And.intro (And.intro (And.intro (And.intro @ac_field_laid.eq_1 (@mR _ _ ac_field_laid_0.eq_1)) (@mR _ _ ac_field_laid_1.eq_1)) (And.intro (And.intro (@mR _ _ ac_field_laid_2.eq_1) (@mR _ _ ac_field_laid_3.eq_1)) (@mU _ _ ac_field_laid_4.eq_1))) (And.intro (And.intro (And.intro (@mU _ _ ac_field_laid_5.eq_1) (@mR _ _ ac_field_laid_6.eq_1)) (@mU _ _ ac_field_laid_7.eq_1)) (And.intro (@mU _ _ ac_field_laid_8.eq_1) (@mR _ _ ac_field_laid_9.eq_1)))) (And.intro (And.intro (And.intro (And.intro (@mU _ _ ac_field_laid_10.eq_1) (@mU _ _ ac_field_laid_11.eq_1)) (@mR _ _ ac_field_laid_12.eq_1)) (And.intro (And.intro (@mU _ _ ac_field_laid_13.eq_1) (@mU _ _ ac_field_laid_14.eq_1)) (@mR _ _ ac_field_laid_15.eq_1))) (And.intro (And.intro (And.intro (@mU _ _ ac_field_laid_16.eq_1) (@mU _ _ ac_field_laid_17.eq_1)) (@mR _ _ ac_field_laid_18.eq_1)) (And.intro (@mU _ _ ac_field_laid_19.eq_1) (@mU _ _ ac_field_laid_20.eq_1))))) (And.intro (And.intro (And.intro (And.intro (And.intro (@mR _ _ ac_field_laid_21.eq_1) (@mU _ _ ac_field_laid_22.eq_1)) (@mU _ _ ac_field_laid_23.eq_1)) (And.intro (And.intro (@mR _ _ ac_field_laid_24.eq_1) (@mU _ _ ac_field_laid_25.eq_1)) (@mU _ _ ac_field_laid_26.eq_1))) (And.intro (And.intro (And.intro (@mU _ _ ac_field_laid_27.eq_1) (@mU _ _ ac_field_laid_28.eq_1)) (@mU _ _ ac_field_laid_29.eq_1)) (And.intro (@mU _ _ ac_field_laid_30.eq_1) (@mU _ _ ac_field_laid_31.eq_1)))) (And.intro (And.intro (And.intro (And.intro (@mU _ _ ac_field_laid_32.eq_1) (@mU _ _ ac_field_laid_33.eq_1)) (@mU _ _ ac_field_laid_34.eq_1)) (And.intro (And.intro (@mU _ _ ac_field_laid_35.eq_1) (@mR _ _ ac_field_laid_36.eq_1)) (@mU _ _ ac_field_laid_37.eq_1))) (And.intro (And.intro (And.intro (@mU _ _ ac_field_laid_38.eq_1) (@mR _ _ ac_field_laid_39.eq_1)) (@mU _ _ ac_field_laid_40.eq_1)) (And.intro (@mU _ _ ac_field_laid_41.eq_1) (@mR _ _ ac_field_laid_42.eq_1)))))) (And.intro (And.intro (And.intro (And.intro (And.intro (And.intro (@mU _ _ ac_field_laid_43.eq_1) (@mU _ _ ac_field_laid_44.eq_1)) (@mR _ _ ac_field_laid_45.eq_1)) (And.intro (And.intro (@mU _ _ ac_field_laid_46.eq_1) (@mU _ _ ac_field_laid_47.eq_1)) (@mR _ _ ac_field_laid_48.eq_1))) (And.intro (And.intro (And.intro (@mU _ _ ac_field_laid_49.eq_1) (@mU _ _ ac_field_laid_50.eq_1)) (@mR _ _ ac_field_laid_51.eq_1)) (And.intro (@mU _ _ ac_field_laid_52.eq_1) (@mU _ _ ac_field_laid_53.eq_1)))) (And.intro (And.intro (And.intro (And.intro (@mR _ _ ac_field_laid_54.eq_1) (@mU _ _ ac_field_laid_55.eq_1)) (@mU _ _ ac_field_laid_56.eq_1)) (And.intro (And.intro (@mR _ _ ac_field_laid_57.eq_1) (@mU _ _ ac_field_laid_58.eq_1)) (@mU _ _ ac_field_laid_59.eq_1))) (And.intro (And.intro (And.intro (@mU _ _ ac_field_laid_60.eq_1) (@mU _ _ ac_field_laid_61.eq_1)) (@mR _ _ ac_field_laid_62.eq_1)) (And.intro (@mU _ _ ac_field_laid_63.eq_1) (@mU _ _ ac_field_laid_64.eq_1))))) (And.intro (And.intro (And.intro (And.intro (And.intro (@mU _ _ ac_field_laid_65.eq_1) (@mU _ _ ac_field_laid_66.eq_1)) @l_field_laid_0.eq_1) (And.intro (And.intro @l_field_laid_1.eq_1 @l_field_laid_2.eq_1) @l_field_laid_3.eq_1)) (And.intro (And.intro (And.intro @l_field_laid_6.eq_1 @l_field_laid_9.eq_1) @l_field_laid_12.eq_1) (And.intro @l_field_laid_15.eq_1 @l_field_laid_18.eq_1))) (And.intro (And.intro (And.intro (And.intro @l_field_laid_21.eq_1 @l_field_laid_24.eq_1) @l_field_laid_36.eq_1) (And.intro (And.intro @l_field_laid_39.eq_1 @l_field_laid_42.eq_1) @l_field_laid_45.eq_1)) (And.intro (And.intro (And.intro @l_field_laid_48.eq_1 @l_field_laid_51.eq_1) @l_field_laid_54.eq_1) (And.intro @l_field_laid_57.eq_1 @l_field_laid_62.eq_1))))))

/- (*strings.Builder).String -/
def l_strings_Builder_String_0 : List AOp := [⟨(some 2), .mv (.k (.str [])), none, none, [], none⟩]
def ac_strings_Builder_String_0 : AC := .reg l_strings_Builder_String_0
def l_strings_Builder_String_1 : List AOp := [⟨(some 3), .mv (.t 0), none, none, [], none⟩,
  ⟨(some 4), .nilck (.t 3), none, none, [], none⟩,
  ⟨(some 5), .faddr 1 (.t 4), none, none, [], none⟩,
  ⟨(some 6), .load none (.t 5), none, none, [], none⟩,
  ⟨(some 7), .usd (.t 6), none, none, [], none⟩,
  ⟨(some 8), .mv (.t 0), none, none, [], none⟩,
  ⟨(some 9), .nilck (.t 8), none, none, [], none⟩,
  ⟨(some 10), .faddr 1 (.t 9), none, none, [], none⟩,
  ⟨(some 11), .load none (.t 10), none, none, [], none⟩,
  ⟨(some 12), .len (.t 11), none, none, [], none⟩,
  ⟨(some 13), .ust 5 (.t 7) (.t 12), none, none, [], none⟩,
  ⟨(some 2), .mv (.t 13), none, none, [], none⟩]
def ac_strings_Builder_String_1 : AC := .dreg 0 l_strings_Builder_String_1
def ac_strings_Builder_String_2 : AC := .seq ac_strings_Builder_String_1 .ret
def ac_strings_Builder_String_3 : AC := .seq ac_strings_Builder_String_0 ac_strings_Builder_String_2
def ac_strings_Builder_String : AC := ac_strings_Builder_String_3
theorem comp_strings_Builder_String : compF Try.prog [] (drawR Try.prog [] Try.f41.ntmps) [] 1 Try.f41 = some (ac_strings_Builder_String, [.t 2]) := by kernel_rfl
def U_strings_Builder_String := (And.intro (And.intro (And.intro @ac_strings_Builder_String.eq_1 (@mR _ _ ac_strings_Builder_String_0.eq_1)) (And.intro (@mD _ _ _ ac_strings_Builder_String_1.eq_1) (@mU _ _ ac_strings_Builder_String_2.eq_1))) (And.intro (And.intro (@mU _ _ ac_strings_Builder_String_3.eq_1) @l_strings_Builder_String_0.eq_1) @l_strings_Builder_String_1.eq_1))

/- scoria/scoriaref01.Put -/
def l_ref01_Put_0 : List AOp := [⟨(some 4), .mv (.k (.str [])), none, none, [], none⟩,
  ⟨(some 5), .mv (.k (.int .i64 0)), none, none, [], none⟩]
def ac_ref01_Put_0 : AC := .reg l_ref01_Put_0
def l_ref01_Put_1 : List AOp := [⟨(some 8), .mv (.t 1), none, none, [], none⟩,
  ⟨(some 9), .bin .lss (.t 8) (.k (.int .i64 1)), none, none, [], none⟩,
  ⟨(some 10), .mv (.t 9), none, none, [], none⟩,
  ⟨(some 11), .mv (.t 1), (some (10, false)), none, [], none⟩,
  ⟨(some 12), .bin .gtr (.t 11) (.k (.int .i64 8)), (some (10, false)), none, [], none⟩,
  ⟨(some 13), .pick (.t 10) (.k (.bool true)) (.t 12), none, none, [], none⟩]
def ac_ref01_Put_1 : AC := .reg l_ref01_Put_1
def l_ref01_Put_2 : List AOp := [⟨(some 4), .mv (.k (.str [])), none, none, [], none⟩,
  ⟨(some 5), .mv (.k (.int .i64 1)), none, none, [], none⟩]
def ac_ref01_Put_2 : AC := .reg l_ref01_Put_2
def ac_ref01_Put_3 : AC := .seq ac_ref01_Put_2 .ret
def ac_ref01_Put_4 : AC := .cond (.t 13) ac_ref01_Put_3 .skip
def ac_ref01_Put_5 : AC := .seq ac_ref01_Put_1 ac_ref01_Put_4
def l_ref01_Put_6 : List AOp := [⟨(some 15), .mv (.t 0), none, none, [], none⟩,
  ⟨(some 16), .mv (.t 1), none, none, [], none⟩,
  ⟨(some 17), .call false 50 [(.t 15), (.t 16)], none, none, [], none⟩,
  ⟨(some 14), .mv (.t 17), none, none, [], none⟩,
  ⟨(some 18), .ext 0 (.t 14), none, none, [], none⟩,
  ⟨(some 19), .ext 1 (.t 14), none, none, [], none⟩,
  ⟨(some 6), .mv (.t 18), none, none, [], none⟩,
  ⟨(some 7), .mv (.t 19), none, none, [], none⟩]
def ac_ref01_Put_6 : AC := .reg l_ref01_Put_6
def l_ref01_Put_7 : List AOp := [⟨(some 20), .mv (.t 7), none, none, [], none⟩,
  ⟨(some 21), .un .not (.t 20), none, none, [], none⟩]
def ac_ref01_Put_7 : AC := .reg l_ref01_Put_7
def l_ref01_Put_8 : List AOp := [⟨(some 4), .mv (.k (.str [])), none, none, [], none⟩,
  ⟨(some 5), .mv (.k (.int .i64 2)), none, none, [], none⟩]
def ac_ref01_Put_8 : AC := .reg l_ref01_Put_8
def ac_ref01_Put_9 : AC := .seq ac_ref01_Put_8 .ret
def ac_ref01_Put_10 : AC := .cond (.t 21) ac_ref01_Put_9 .skip
def ac_ref01_Put_11 : AC := .seq ac_ref01_Put_7 ac_ref01_Put_10
def l_ref01_Put_12 : List AOp := [⟨(some 22), .mv (.t 6), none, none, [], none⟩,
  ⟨(some 4), .mv (.t 22), none, none, [], none⟩,
  ⟨(some 5), .mv (.k (.int .i64 0)), none, none, [], none⟩]
def ac_ref01_Put_12 : AC := .reg l_ref01_Put_12
def ac_ref01_Put_13 : AC := .seq ac_ref01_Put_12 .ret
def ac_ref01_Put_14 : AC := .seq ac_ref01_Put_11 ac_ref01_Put_13
def ac_ref01_Put_15 : AC := .seq ac_ref01_Put_6 ac_ref01_Put_14
def ac_ref01_Put_16 : AC := .seq ac_ref01_Put_5 ac_ref01_Put_15
def ac_ref01_Put_17 : AC := .seq ac_ref01_Put_0 ac_ref01_Put_16
def ac_ref01_Put : AC := ac_ref01_Put_17
theorem comp_ref01_Put : compF Try.prog [] (drawR Try.prog [] Try.f42.ntmps) [] 2 Try.f42 = some (ac_ref01_Put, [.t 4, .t 5]) := by kernel_rfl
def U_ref01_Put := (And.intro (And.intro (And.intro (And.intro (And.intro @ac_ref01_Put.eq_1 (@mR _ _ ac_ref01_Put_0.eq_1)) (And.intro (@mR _ _ ac_ref01_Put_1.eq_1) (@mR _ _ ac_ref01_Put_2.eq_1))) (And.intro (And.intro (@mU _ _ ac_ref01_Put_3.eq_1) (@mU _ _ ac_ref01_Put_4.eq_1)) (@mU _ _ ac_ref01_Put_5.eq_1))) (And.intro (And.intro (And.intro (@mR _ _ ac_ref01_Put_6.eq_1) (@mR _ _ ac_ref01_Put_7.eq_1)) (@mR _ _ ac_ref01_Put_8.eq_1)) (And.intro (And.intro (@mU _ _ ac_ref01_Put_9.eq_1) (@mU _ _ ac_ref01_Put_10.eq_1)) (@mU _ _ ac_ref01_Put_11.eq_1)))) (And.intro (And.intro (And.intro (And.intro (@mR _ _ ac_ref01_Put_12.eq_1) (@mU _ _ ac_ref01_Put_13.eq_1)) (And.intro (@mU _ _ ac_ref01_Put_14.eq_1) (@mU _ _ ac_ref01_Put_15.eq_1))) (And.intro (And.intro (@mU _ _ ac_ref01_Put_16.eq_1) (@mU _ _ ac_ref01_Put_17.eq_1)) @l_ref01_Put_0.eq_1)) (And.intro (And.intro (And.intro @l_ref01_Put_1.eq_1 @l_ref01_Put_2.eq_1) @l_ref01_Put_6.eq_1) (And.intro (And.intro @l_ref01_Put_7.eq_1 @l_ref01_Put_8.eq_1) @l_ref01_Put_12.eq_1))))

/- scoria/field.Get -/
def l_field_Get_0 : List AOp := [⟨(some 6), .mv (.k (.int .u64 0)), none, none, [], none⟩,
  ⟨(some 7), .mv (.k (.int .i64 0)), none, none, [], none⟩]
def ac_field_Get_0 : AC := .reg l_field_Get_0
def l_field_Get_1 : List AOp := [⟨(some 11), .mv (.t 2), none, none, [], none⟩,
  ⟨(some 12), .call false 48 [(.t 11)], none, none, [], none⟩,
  ⟨(some 13), .un .not (.t 12), none, none, [], none⟩,
  ⟨(some 14), .mv (.t 13), none, none, [], none⟩,
  ⟨(some 15), .mv (.t 1), (some (14, false)), none, [], none⟩,
  ⟨(some 16), .bin .lss (.t 15) (.k (.int .i64 0)), (some (14, false)), none, [], none⟩,
  ⟨(some 17), .pick (.t 14) (.k (.bool true)) (.t 16), none, none, [], none⟩,
  ⟨(some 10), .mv (.t 17), none, none, [], none⟩]
def ac_field_Get_1 : AC := .reg l_field_Get_1
def l_field_Get_2 : List AOp := [⟨(some 6), .mv (.k (.int .u64 0)), none, none, [], none⟩,
  ⟨(some 7), .mv (.k (.int .i64 1)), none, none, [], none⟩]
def ac_field_Get_2 : AC := .reg l_field_Get_2
def ac_field_Get_3 : AC := .seq ac_field_Get_2 .ret
def l_field_Get_4 : List AOp := [⟨(some 19), .mv (.t 1), none, none, [], none⟩,
  ⟨(some 20), .mv (.t 0), none, none, [], none⟩,
  ⟨(some 21), .lens (.t 20), none, none, [], none⟩,
  ⟨(some 22), .bin .gtr (.t 19) (.t 21), none, none, [], none⟩,
  ⟨(some 23), .mv (.t 22), none, none, [], none⟩,
  ⟨(some 24), .mv (.t 0), (some (23, false)), none, [], none⟩,
  ⟨(some 25), .lens (.t 24), (some (23, false)), none, [], none⟩,
  ⟨(some 26), .mv (.t 1), (some (23, false)), none, [], none⟩,
  ⟨(some 27), .bin .sub (.t 25) (.t 26), (some (23, false)), none, [], none⟩,
  ⟨(some 28), .mv (.t 2), (some (23, false)), none, [], none⟩,
  ⟨(some 29), .bin .lss (.t 27) (.t 28), (some (23, false)), none, [], none⟩,
  ⟨(some 30), .pick (.t 23) (.k (.bool true)) (.t 29), none, none, [], none⟩,
  ⟨(some 18), .mv (.t 30), none, none, [], none⟩]
def ac_field_Get_4 : AC := .reg l_field_Get_4
def l_field_Get_5 : List AOp := [⟨(some 6), .mv (.k (.int .u64 0)), none, none, [], none⟩,
  ⟨(some 7), .mv (.k (.int .i64 5)), none, none, [], none⟩]
def ac_field_Get_5 : AC := .reg l_field_Get_5
def ac_field_Get_6 : AC := .seq ac_field_Get_5 .ret
def ac_field_Get_7 : AC := .cond (.t 18) ac_field_Get_6 .skip
def ac_field_Get_8 : AC := .seq ac_field_Get_4 ac_field_Get_7
def ac_field_Get_9 : AC := .cond (.t 10) ac_field_Get_3 ac_field_Get_8
def ac_field_Get_10 : AC := .seq ac_field_Get_1 ac_field_Get_9
def ac_field_Get_11 : AC := .block 0 ac_field_Get_10
def l_field_Get_12 : List AOp := [⟨(some 8), .mv (.k (.int .u64 0)), none, none, [], none⟩]
def ac_field_Get_12 : AC := .reg l_field_Get_12
def l_field_Get_13 : List AOp := [⟨(some 31), .mv (.t 2), none, none, [], none⟩,
  ⟨(some 32), .bin .sub (.t 31) (.k (.int .i64 1)), none, none, [], none⟩,
  ⟨(some 9), .mv (.t 32), none, none, [], none⟩]
def ac_field_Get_13 : AC := .reg l_field_Get_13
def l_field_Get_14 : List AOp := [⟨(some 33), .mv (.t 9), none, none, [], none⟩,
  ⟨(some 34), .bin .geq (.t 33) (.k (.int .i64 0)), none, none, [], none⟩]
def ac_field_Get_14 : AC := .reg l_field_Get_14
def ac_field_Get_15 : AC := .cond (.t 34) .skip (.exit 1)
def ac_field_Get_16 : AC := .seq ac_field_Get_14 ac_field_Get_15
def l_field_Get_17 : List AOp := [⟨(some 37), .mv (.t 8), none, none, [], none⟩,
  ⟨(some 38), .bin .shl (.t 37) (.k (.int .u64 8)), none, none, [], none⟩,
  ⟨(some 39), .mv (.t 0), none, none, [], none⟩,
  ⟨(some 40), .mv (.t 1), none, none, [], none⟩,
  ⟨(some 41), .mv (.t 9), none, none, [], none⟩,
  ⟨(some 42), .bin .add (.t 40) (.t 41), none, none, [], none⟩,
  ⟨(some 43), .idxs (.t 39) (.t 42), none, none, [], none⟩,
  ⟨(some 44), .conv .u64 (.t 43), none, none, [], none⟩,
  ⟨(some 45), .bin .or (.t 38) (.t 44), none, none, [], none⟩,
  ⟨(some 8), .mv (.t 45), none, none, [], none⟩]
def ac_field_Get_17 : AC := .reg l_field_Get_17
def ac_field_Get_18 : AC := .block 2 ac_field_Get_17
def l_field_Get_19 : List AOp := [⟨(some 35), .mv (.t 9), none, none, [], none⟩,
  ⟨(some 36), .bin .sub (.t 35) (.k (.int .i64 1)), none, none, [], none⟩,
  ⟨(some 9), .mv (.t 36), none, none, [], none⟩]
def ac_field_Get_19 : AC := .reg l_field_Get_19
def ac_field_Get_20 : AC := .seq ac_field_Get_18 ac_field_Get_19
def ac_field_Get_21 : AC := .seq ac_field_Get_16 ac_field_Get_20
def ac_field_Get_22 : AC := .loop [0, 1, 8, 9] 0 ac_field_Get_21
def ac_field_Get_23 : AC := .block 1 ac_field_Get_22
def ac_field_Get_24 : AC := .seq ac_field_Get_13 ac_field_Get_23
def l_field_Get_25 : List AOp := [⟨(some 46), .mv (.t 8), none, none, [], none⟩,
  ⟨(some 6), .mv (.t 46), none, none, [], none⟩,
  ⟨(some 7), .mv (.k (.int .i64 0)), none, none, [], none⟩]
def ac_field_Get_25 : AC := .reg l_field_Get_25
def ac_field_Get_26 : AC := .seq ac_field_Get_25 .ret
def ac_field_Get_27 : AC := .seq ac_field_Get_24 ac_field_Get_26
def ac_field_Get_28 : AC := .seq ac_field_Get_12 ac_field_Get_27
def ac_field_Get_29 : AC := .seq ac_field_Get_11 ac_field_Get_28
def ac_field_Get_30 : AC := .seq ac_field_Get_0 ac_field_Get_29
def ac_field_Get : AC := ac_field_Get_30
theorem comp_field_Get : compF Try.prog [] (drawR Try.prog [] Try.f43.ntmps) [([0, 1, 8, 9], 0)] 3 Try.f43 = some (ac_field_Get, [.t 6, .t 7]) := by kernel_rfl
def U_field_Get := (And.intro (And.intro (And.intro (And.intro (And.intro (And.intro @ac_field_Get.eq_1 (@mR _ _ ac_field_Get_0.eq_1)) (@mR _ _ ac_field_Get_1.eq_1)) (And.intro (And.intro (@mR _ _ ac_field_Get_2.eq_1) (@mU _ _ ac_field_Get_3.eq_1)) (@mR _ _ ac_field_Get_4.eq_1))) (And.intro (And.intro (And.intro (@mR _ _ ac_field_Get_5.eq_1) (@mU _ _ ac_field_Get_6.eq_1)) (@mU _ _ ac_field_Get_7.eq_1)) (And.intro (@mU _ _ ac_field_Get_8.eq_1) (@mU _ _ ac_field_Get_9.eq_1)))) (And.intro (And.intro (And.intro (And.intro (@mU _ _ ac_field_Get_10.eq_1) (@mU _ _ ac_field_Get_11.eq_1)) (@mR _ _ ac_field_Get_12.eq_1)) (And.intro (And.intro (@mR _ _ ac_field_Get_13.eq_1) (@mR _ _ ac_field_Get_14.eq_1)) (@mU _ _ ac_field_Get_15.eq_1))) (And.intro (And.intro (And.intro (@mU _ _ ac_field_Get_16.eq_1) (@mR _ _ ac_field_Get_17.eq_1)) (@mU _ _ ac_field_Get_18.eq_1)) (And.intro (@mR _ _ ac_field_Get_19.eq_1) (@mU _ _ ac_field_Get_20.eq_1))))) (And.intro (And.intro (And.intro (And.intro (And.intro (@mU _ _ ac_field_Get_21.eq_1) (@mU _ _ ac_field_Get_22.eq_1)) (@mU _ _ ac_field_Get_23.eq_1)) (And.intro (And.intro (@mU _ _ ac_field_Get_24.eq_1) (@mR _ _ ac_field_Get_25.eq_1)) (@mU _ _ ac_field_Get_26.eq_1))) (And.intro (And.intro (And.intro (@mU _ _ ac_field_Get_27.eq_1) (@mU _ _ ac_field_Get_28.eq_1)) (@mU _ _ ac_field_Get_29.eq_1)) (And.intro (@mU _ _ ac_field_Get_30.eq_1) @l_field_Get_0.eq_1))) (And.intro (And.intro (And.intro (And.intro @l_field_Get_1.eq_1 @l_field_Get_2.eq_1) @l_field_Get_4.eq_1) (And.intro @l_field_Get_5.eq_1 @l_field_Get_12.eq_1)) (And.intro (And.intro (And.intro @l_field_Get_13.eq_1 @l_field_Get_14.eq_1) @l_field_Get_17.eq_1) (And.intro @l_field_Get_19.eq_1 @l_field_Get_25.eq_1)))))

/- scoria/scoriaref01.Get -/
def l_ref01_Get_0 : List AOp := [⟨(some 6), .mv (.k (.int .u64 0)), none, none, [], none⟩,
  ⟨(some 7), .mv (.k (.int .i64 0)), none, none, [], none⟩]
def ac_ref01_Get_0 : AC := .reg l_ref01_Get_0
def l_ref01_Get_1 : List AOp := [⟨(some 11), .mv (.t 2), none, none, [], none⟩,
  ⟨(some 12), .bin .lss (.t 11) (.k (.int .i64 1)), none, none, [], none⟩,
  ⟨(some 13), .mv (.t 12), none, none, [], none⟩,
  ⟨(some 14), .mv (.t 2), (some (13, false)), none, [], none⟩,
  ⟨(some 15), .bin .gtr (.t 14) (.k (.int .i64 8)), (some (13, false)), none, [], none⟩,
  ⟨(some 16), .pick (.t 13) (.k (.bool true)) (.t 15), none, none, [], none⟩,
  ⟨(some 17), .mv (.t 16), none, none, [], none⟩,
  ⟨(some 18), .mv (.t 1), (some (17, false)), none, [], none⟩,
  ⟨(some 19), .bin .lss (.t 18) (.k (.int .i64 0)), (some (17, false)), none, [], none⟩,
  ⟨(some 20), .pick (.t 17) (.k (.bool true)) (.t 19), none, none, [], none⟩]
def ac_ref01_Get_1 : AC := .reg l_ref01_Get_1
def l_ref01_Get_2 : List AOp := [⟨(some 6), .mv (.k (.int .u64 0)), none, none, [], none⟩,
  ⟨(some 7), .mv (.k (.int .i64 1)), none, none, [], none⟩]
def ac_ref01_Get_2 : AC := .reg l_ref01_Get_2
def ac_ref01_Get_3 : AC := .seq ac_ref01_Get_2 .ret
def ac_ref01_Get_4 : AC := .cond (.t 20) ac_ref01_Get_3 .skip
def ac_ref01_Get_5 : AC := .seq ac_ref01_Get_1 ac_ref01_Get_4
def l_ref01_Get_6 : List AOp := [⟨(some 21), .mv (.t 1), none, none, [], none⟩,
  ⟨(some 22), .mv (.t 0), none, none, [], none⟩,
  ⟨(some 23), .lens (.t 22), none, none, [], none⟩,
  ⟨(some 24), .bin .gtr (.t 21) (.t 23), none, none, [], none⟩,
  ⟨(some 25), .mv (.t 24), none, none, [], none⟩,
  ⟨(some 26), .mv (.t 2), (some (25, false)), none, [], none⟩,
  ⟨(some 27), .mv (.t 0), (some (25, false)), none, [], none⟩,
  ⟨(some 28), .lens (.t 27), (some (25, false)), none, [], none⟩,
  ⟨(some 29), .mv (.t 1), (some (25, false)), none, [], none⟩,
  ⟨(some 30), .bin .sub (.t 28) (.t 29), (some (25, false)), none, [], none⟩,
  ⟨(some 31), .bin .gtr (.t 26) (.t 30), (some (25, false)), none, [], none⟩,
  ⟨(some 32), .pick (.t 25) (.k (.bool true)) (.t 31), none, none, [], none⟩]
def ac_ref01_Get_6 : AC := .reg l_ref01_Get_6
def l_ref01_Get_7 : List AOp := [⟨(some 6), .mv (.k (.int .u64 0)), none, none, [], none⟩,
  ⟨(some 7), .mv (.k (.int .i64 5)), none, none, [], none⟩]
def ac_ref01_Get_7 : AC := .reg l_ref01_Get_7
def ac_ref01_Get_8 : AC := .seq ac_ref01_Get_7 .ret
def ac_ref01_Get_9 : AC := .cond (.t 32) ac_ref01_Get_8 .skip
def ac_ref01_Get_10 : AC := .seq ac_ref01_Get_6 ac_ref01_Get_9
def l_ref01_Get_11 : List AOp := [⟨(some 8), .mv (.k (.int .u64 0)), none, none, [], none⟩,
  ⟨(some 9), .mv (.k (.int .u64 1)), none, none, [], none⟩]
def ac_ref01_Get_11 : AC := .reg l_ref01_Get_11
def l_ref01_Get_12 : List AOp := [⟨(some 10), .mv (.k (.int .i64 0)), none, none, [], none⟩]
def ac_ref01_Get_12 : AC := .reg l_ref01_Get_12
def l_ref01_Get_13 : List AOp := [⟨(some 33), .mv (.t 10), none, none, [], none⟩,
  ⟨(some 34), .mv (.t 2), none, none, [], none⟩,
  ⟨(some 35), .bin .lss (.t 33) (.t 34), none, none, [], none⟩]
def ac_ref01_Get_13 : AC := .reg l_ref01_Get_13
def ac_ref01_Get_14 : AC := .cond (.t 35) .skip (.exit 0)
def ac_ref01_Get_15 : AC := .seq ac_ref01_Get_13 ac_ref01_Get_14
def l_ref01_Get_16 : List AOp := [⟨(some 38), .mv (.t 8), none, none, [], none⟩,
  ⟨(some 39), .mv (.t 9), none, none, [], none⟩,
  ⟨(some 40), .mv (.t 0), none, none, [], none⟩,
  ⟨(some 41), .mv (.t 1), none, none, [], none⟩,
  ⟨(some 42), .mv (.t 10), none, none, [], none⟩,
  ⟨(some 43), .bin .add (.t 41) (.t 42), none, none, [], none⟩,
  ⟨(some 44), .idxs (.t 40) (.t 43), none, none, [], none⟩,
  ⟨(some 45), .conv .u64 (.t 44), none, none, [], none⟩,
  ⟨(some 46), .bin .mul (.t 39) (.t 45), none, none, [], none⟩,
  ⟨(some 47), .bin .add (.t 38) (.t 46), none, none, [], none⟩,
  ⟨(some 8), .mv (.t 47), none, none, [], none⟩]
def ac_ref01_Get_16 : AC := .reg l_ref01_Get_16
def l_ref01_Get_17 : List AOp := [⟨(some 48), .mv (.t 9), none, none, [], none⟩,
  ⟨(some 49), .bin .mul (.t 48) (.k (.int .u64 256)), none, none, [], none⟩,
  ⟨(some 9), .mv (.t 49), none, none, [], none⟩]
def ac_ref01_Get_17 : AC := .reg l_ref01_Get_17
def ac_ref01_Get_18 : AC := .seq ac_ref01_Get_16 ac_ref01_Get_17
def ac_ref01_Get_19 : AC := .block 1 ac_ref01_Get_18
def l_ref01_Get_20 : List AOp := [⟨(some 36), .mv (.t 10), none, none, [], none⟩,
  ⟨(some 37), .bin .add (.t 36) (.k (.int .i64 1)), none, none, [], none⟩,
  ⟨(some 10), .mv (.t 37), none, none, [], none⟩]
def ac_ref01_Get_20 : AC := .reg l_ref01_Get_20
def ac_ref01_Get_21 : AC := .seq ac_ref01_Get_19 ac_ref01_Get_20
def ac_ref01_Get_22 : AC := .seq ac_ref01_Get_15 ac_ref01_Get_21
def ac_ref01_Get_23 : AC := .loop [0, 1, 2, 8, 9, 10] 0 ac_ref01_Get_22
def ac_ref01_Get_24 : AC := .block 0 ac_ref01_Get_23
def ac_ref01_Get_25 : AC := .seq ac_ref01_Get_12 ac_ref01_Get_24
def l_ref01_Get_26 : List AOp := [⟨(some 50), .mv (.t 8), none, none, [], none⟩,
  ⟨(some 6), .mv (.t 50), none, none, [], none⟩,
  ⟨(some 7), .mv (.k (.int .i64 0)), none, none, [], none⟩]
def ac_ref01_Get_26 : AC := .reg l_ref01_Get_26
def ac_ref01_Get_27 : AC := .seq ac_ref01_Get_26 .ret
def ac_ref01_Get_28 : AC := .seq ac_ref01_Get_25 ac_ref01_Get_27
def ac_ref01_Get_29 : AC := .seq ac_ref01_Get_11 ac_ref01_Get_28
def ac_ref01_Get_30 : AC := .seq ac_ref01_Get_10 ac_ref01_Get_29
def ac_ref01_Get_31 : AC := .seq ac_ref01_Get_5 ac_ref01_Get_30
def ac_ref01_Get_32 : AC := .seq ac_ref01_Get_0 ac_ref01_Get_31
def ac_ref01_Get : AC := ac_ref01_Get_32
theorem comp_ref01_Get : compF Try.prog [] (drawR Try.prog [] Try.f44.ntmps) [([0, 1, 2, 8, 9, 10], 0)] 3 Try.f44 = some (ac_ref01_Get, [.t 6, .t 7]) := by kernel_rfl
def U_ref01_Get := (And.intro (And.intro (And.intro (And.intro (And.intro (And.intro @ac_ref01_Get.eq_1 (@mR _ _ ac_ref01_Get_0.eq_1)) (@mR _ _ ac_ref01_Get_1.eq_1)) (And.intro (And.intro (@mR _ _ ac_ref01_Get_2.eq_1) (@mU _ _ ac_ref01_Get_3.eq_1)) (@mU _ _ ac_ref01_Get_4.eq_1))) (And.intro (And.intro (And.intro (@mU _ _ ac_ref01_Get_5.eq_1) (@mR _ _ ac_ref01_Get_6.eq_1)) (@mR _ _ ac_ref01_Get_7.eq_1)) (And.intro (And.intro (@mU _ _ ac_ref01_Get_8.eq_1) (@mU _ _ ac_ref01_Get_9.eq_1)) (@mU _ _ ac_ref01_Get_10.eq_1)))) (And.intro (And.intro (And.intro (And.intro (@mR _ _ ac_ref01_Get_11.eq_1) (@mR _ _ ac_ref01_Get_12.eq_1)) (@mR _ _ ac_ref01_Get_13.eq_1)) (And.intro (And.intro (@mU _ _ ac_ref01_Get_14.eq_1) (@mU _ _ ac_ref01_Get_15.eq_1)) (@mR _ _ ac_ref01_Get_16.eq_1))) (And.intro (And.intro (And.intro (@mR _ _ ac_ref01_Get_17.eq_1) (@mU _ _ ac_ref01_Get_18.eq_1)) (@mU _ _ ac_ref01_Get_19.eq_1)) (And.intro (@mR _ _ ac_ref01_Get_20.eq_1) (@mU _ _ ac_ref01_Get_21.eq_1))))) (And.intro (And.intro (And.intro (And.intro (And.intro (@mU _ _ ac_ref01_Get_22.eq_1) (@mU _ _ ac_ref01_Get_23.eq_1)) (@mU _ _ ac_ref01_Get_24.eq_1)) (And.intro (And.intro (@mU _ _ ac_ref01_Get_25.eq_1) (@mR _ _ ac_ref01_Get_26.eq_1)) (@mU _ _ ac_ref01_Get_27.eq_1))) (And.intro (And.intro (And.intro (@mU _ _ ac_ref01_Get_28.eq_1) (@mU _ _ ac_ref01_Get_29.eq_1)) (@mU _ _ ac_ref01_Get_30.eq_1)) (And.intro (And.intro (@mU _ _ ac_ref01_Get_31.eq_1) (@mU _ _ ac_ref01_Get_32.eq_1)) @l_ref01_Get_0.eq_1))) (And.intro (And.intro (And.intro (And.intro @l_ref01_Get_1.eq_1 @l_ref01_Get_2.eq_1) @l_ref01_Get_6.eq_1) (And.intro (And.intro @l_ref01_Get_7.eq_1 @l_ref01_Get_11.eq_1) @l_ref01_Get_12.eq_1)) (And.intro (And.intro (And.intro @l_ref01_Get_13.eq_1 @l_ref01_Get_16.eq_1) @l_ref01_Get_17.eq_1) (And.intro @l_ref01_Get_20.eq_1 @l_ref01_Get_26.eq_1)))))

/- slices.IndexFunc[[]int,int] -/
def l_slices_IndexFunc_int_0 : List AOp := [⟨(some 4), .mv (.k (.int .i64 0)), none, none, [], none⟩]
def ac_slices_IndexFunc_int_0 : AC := .reg l_slices_IndexFunc_int_0
def l_slices_IndexFunc_int_1 : List AOp := [⟨(some 6), .mv (.t 0), none, none, [], none⟩,
  ⟨(some 7), .len (.t 6), none, none, [], none⟩,
  ⟨(some 8), .mv (.k (.int .i64 0)), none, none, [], none⟩]
def ac_slices_IndexFunc_int_1 : AC := .reg l_slices_IndexFunc_int_1
def l_slices_IndexFunc_int_2 : List AOp := [⟨(some 9), .bin .lss (.t 8) (.t 7), none, none, [], none⟩]
def ac_slices_IndexFunc_int_2 : AC := .reg l_slices_IndexFunc_int_2
def ac_slices_IndexFunc_int_3 : AC := .cond (.t 9) .skip (.exit 0)
def l_slices_IndexFunc_int_4 : List AOp := [⟨(some 10), .mv (.t 8), none, none, [], none⟩,
  ⟨(some 5), .mv (.t 10), none, none, [], none⟩]
def ac_slices_IndexFunc_int_4 : AC := .reg l_slices_IndexFunc_int_4
def l_slices_IndexFunc_int_5 : List AOp := [⟨(some 11), .mv (.t 1), none, none, [], none⟩,
  ⟨(some 12), .mv (.t 0), none, none, [], none⟩,
  ⟨(some 13), .mv (.t 5), none, none, [], none⟩,
  ⟨(some 14), .isl 1 (.t 12) (.t 13), none, none, [], none⟩,
  ⟨(some 15), .load none (.t 14), none, none, [], none⟩,
  ⟨(some 16), .callv (.t 11) [(.t 15)], none, none, [], none⟩]
def ac_slices_IndexFunc_int_5 : AC := .reg l_slices_IndexFunc_int_5
def l_slices_IndexFunc_int_6 : List AOp := [⟨(some 17), .mv (.t 5), none, none, [], none⟩,
  ⟨(some 4), .mv (.t 17), none, none, [], none⟩]
def ac_slices_IndexFunc_int_6 : AC := .reg l_slices_IndexFunc_int_6
def ac_slices_IndexFunc_int_7 : AC := .seq ac_slices_IndexFunc_int_6 .ret
def ac_slices_IndexFunc_int_8 : AC := .cond (.t 16) ac_slices_IndexFunc_int_7 .skip
def ac_slices_IndexFunc_int_9 : AC := .seq ac_slices_IndexFunc_int_5 ac_slices_IndexFunc_int_8
def ac_slices_IndexFunc_int_10 : AC := .seq ac_slices_IndexFunc_int_4 ac_slices_IndexFunc_int_9
def ac_slices_IndexFunc_int_11 : AC := .block 1 ac_slices_IndexFunc_int_10
def l_slices_IndexFunc_int_12 : List AOp := [⟨(some 18), .bin .add (.t 8) (.k (.int .i64 1)), none, none, [], none⟩,
  ⟨(some 8), .mv (.t 18), none, none, [], none⟩]
def ac_slices_IndexFunc_int_12 : AC := .reg l_slices_IndexFunc_int_12
def ac_slices_IndexFunc_int_13 : AC := .seq ac_slices_IndexFunc_int_11 ac_slices_IndexFunc_int_12
def ac_slices_IndexFunc_int_14 : AC := .seq ac_slices_IndexFunc_int_3 ac_slices_IndexFunc_int_13
def ac_slices_IndexFunc_int_15 : AC := .seq ac_slices_IndexFunc_int_2 ac_slices_IndexFunc_int_14
def ac_slices_IndexFunc_int_16 : AC := .loop [0, 1, 7, 8] 0 ac_slices_IndexFunc_int_15
def ac_slices_IndexFunc_int_17 : AC := .block 0 ac_slices_IndexFunc_int_16
def ac_slices_IndexFunc_int_18 : AC := .seq ac_slices_IndexFunc_int_1 ac_slices_IndexFunc_int_17
def l_slices_IndexFunc_int_19 : List AOp := [⟨(some 4), .mv (.k (.int .i64 (-1))), none, none, [], none⟩]
def ac_slices_IndexFunc_int_19 : AC := .reg l_slices_IndexFunc_int_19
def ac_slices_IndexFunc_int_20 : AC := .seq ac_slices_IndexFunc_int_19 .ret
def ac_slices_IndexFunc_int_21 : AC := .seq ac_slices_IndexFunc_int_18 ac_slices_IndexFunc_int_20
def ac_slices_IndexFunc_int_22 : AC := .seq ac_slices_IndexFunc_int_0 ac_slices_IndexFunc_int_21
def ac_slices_IndexFunc_int : AC := ac_slices_IndexFunc_int_22
theorem comp_slices_IndexFunc_int : compF Try.prog [] (drawR Try.prog [] Try.f47.ntmps) [([0, 1, 7, 8], 0)] 2 Try.f47 = some (ac_slices_IndexFunc_int, [.t 4]) := by kernel_rfl
def U_slices_IndexFunc_int := (And.intro (And.intro (And.intro (And.intro (And.intro @ac_slices_IndexFunc_int.eq_1 (@mR _ _ ac_slices_IndexFunc_int_0.eq_1)) (And.intro (@mR _ _ ac_slices_IndexFunc_int_1.eq_1) (@mR _ _ ac_slices_IndexFunc_int_2.eq_1))) (And.intro (And.intro (@mU _ _ ac_slices_IndexFunc_int_3.eq_1) (@mR _ _ ac_slices_IndexFunc_int_4.eq_1)) (And.intro (@mR _ _ ac_slices_IndexFunc_int_5.eq_1) (@mR _ _ ac_slices_IndexFunc_int_6.eq_1)))) (And.intro (And.intro (And.intro (@mU _ _ ac_slices_IndexFunc_int_7.eq_1) (@mU _ _ ac_slices_IndexFunc_int_8.eq_1)) (And.intro (@mU _ _ ac_slices_IndexFunc_int_9.eq_1) (@mU _ _ ac_slices_IndexFunc_int_10.eq_1))) (And.intro (And.intro (@mU _ _ ac_slices_IndexFunc_int_11.eq_1) (@mR _ _ ac_slices_IndexFunc_int_12.eq_1)) (And.intro (@mU _ _ ac_slices_IndexFunc_int_13.eq_1) (@mU _ _ ac_slices_IndexFunc_int_14.eq_1))))) (And.intro (And.intro (And.intro (And.intro (@mU _ _ ac_slices_IndexFunc_int_15.eq_1) (@mU _ _ ac_slices_IndexFunc_int_16.eq_1)) (And.intro (@mU _ _ ac_slices_IndexFunc_int_17.eq_1) (@mU _ _ ac_slices_IndexFunc_int_18.eq_1))) (And.intro (And.intro (@mR _ _ ac_slices_IndexFunc_int_19.eq_1) (@mU _ _ ac_slices_IndexFunc_int_20.eq_1)) (And.intro (@mU _ _ ac_slices_IndexFunc_int_21.eq_1) (@mU _ _ ac_slices_IndexFunc_int_22.eq_1)))) (And.intro (And.intro (And.intro @l_slices_IndexFunc_int_0.eq_1 @l_slices_IndexFunc_int_1.eq_1) (And.intro @l_slices_IndexFunc_int_2.eq_1 @l_slices_IndexFunc_int_4.eq_1)) (And.intro (And.intro @l_slices_IndexFunc_int_5.eq_1 @l_slices_IndexFunc_int_6.eq_1) (And.intro @l_slices_IndexFunc_int_12.eq_1 @l_slices_IndexFunc_int_19.eq_1)))))

/- scoria/field.width -/
def l_field_width_0 : List AOp := [⟨(some 2), .mv (.k (.bool false)), none, none, [], none⟩]
def ac_field_width_0 : AC := .reg l_field_width_0
def l_field_width_1 : List AOp := [⟨(some 3), .mv (.t 0), none, none, [], none⟩,
  ⟨(some 4), .bin .geq (.t 3) (.k (.int .i64 1)), none, none, [], none⟩,
  ⟨(some 5), .mv (.t 4), none, none, [], none⟩,
  ⟨(some 6), .mv (.t 0), (some (5, true)), none, [], none⟩,
  ⟨(some 7), .bin .leq (.t 6) (.k (.int .i64 8)), (some (5, true)), none, [], none⟩,
  ⟨(some 8), .pick (.t 5) (.t 7) (.k (.bool false)), none, none, [], none⟩,
  ⟨(some 2), .mv (.t 8), none, none, [], none⟩]
def ac_field_width_1 : AC := .reg l_field_width_1
def ac_field_width_2 : AC := .seq ac_field_width_1 .ret
def ac_field_width_3 : AC := .seq ac_field_width_0 ac_field_width_2
def ac_field_width : AC := ac_field_width_3
theorem comp_field_width : compF Try.prog [] (drawR Try.prog [] Try.f48.ntmps) [] 1 Try.f48 = some (ac_field_width, [.t 2]) := by kernel_rfl
def U_field_width := (And.intro (And.intro (And.intro @ac_field_width.eq_1 (@mR _ _ ac_field_width_0.eq_1)) (And.intro (@mR _ _ ac_field_width_1.eq_1) (@mU _ _ ac_field_width_2.eq_1))) (And.intro (And.intro (@mU _ _ ac_field_width_3.eq_1) @l_field_width_0.eq_1) @l_field_width_1.eq_1))

/- scoria/scoriaref01.field -/
def l_ref01_field_0 : List AOp := [⟨(some 4), .mv (.k (.str [])), none, none, [], none⟩,
  ⟨(some 5), .mv (.k (.bool false)), none, none, [], none⟩]
def ac_ref01_field_0 : AC := .reg l_ref01_field_0
def l_ref01_field_1 : List AOp := [⟨(some 6), .nilown 1, none, none, [], none⟩]
def ac_ref01_field_1 : AC := .reg l_ref01_field_1
def l_ref01_field_2 : List AOp := [⟨(some 7), .mv (.k (.int .i64 0)), none, none, [], none⟩]
def ac_ref01_field_2 : AC := .reg l_ref01_field_2
def l_ref01_field_3 : List AOp := [⟨(some 8), .mv (.t 7), none, none, [], none⟩,
  ⟨(some 9), .mv (.t 1), none, none, [], none⟩,
  ⟨(some 10), .bin .lss (.t 8) (.t 9), none, none, [], none⟩]
def ac_ref01_field_3 : AC := .reg l_ref01_field_3
def ac_ref01_field_4 : AC := .cond (.t 10) .skip (.exit 0)
def ac_ref01_field_5 : AC := .seq ac_ref01_field_3 ac_ref01_field_4
def l_ref01_field_6 : List AOp := [⟨(some 13), .mv (.t 6), none, none, [], none⟩,
  ⟨(some 14), .mv (.t 0), none, none, [], none⟩,
  ⟨(some 15), .bin .rem (.t 14) (.k (.int .u64 256)), none, none, [], none⟩,
  ⟨(some 16), .conv .u8 (.t 15), none, none, [], none⟩,
  ⟨(some 17), .blds false [(.int .u8 0)] 1 [(0, (.t 16))], none, none, [], none⟩,
  ⟨(some 18), .app 1 1 [(.int .u8 0)] (.t 13) (.t 17), none, none, [], none⟩,
  ⟨(some 6), .mv (.t 18), none, none, [], none⟩]
def ac_ref01_field_6 : AC := .reg l_ref01_field_6
def l_ref01_field_7 : List AOp := [⟨(some 19), .mv (.t 0), none, none, [], none⟩,
  ⟨(some 20), .bin .quo (.t 19) (.k (.int .u64 256)), none, none, [], none⟩,
  ⟨(some 0), .mv (.t 20), none, none, [], none⟩]
def ac_ref01_field_7 : AC := .reg l_ref01_field_7
def ac_ref01_field_8 : AC := .seq ac_ref01_field_6 ac_ref01_field_7
def ac_ref01_field_9 : AC := .block 1 ac_ref01_field_8
def l_ref01_field_10 : List AOp := [⟨(some 11), .mv (.t 7), none, none, [], none⟩,
  ⟨(some 12), .bin .add (.t 11) (.k (.int .i64 1)), none, none, [], none⟩,
  ⟨(some 7), .mv (.t 12), none, none, [], none⟩]
def ac_ref01_field_10 : AC := .reg l_ref01_field_10
def ac_ref01_field_11 : AC := .seq ac_ref01_field_9 ac_ref01_field_10
def ac_ref01_field_12 : AC := .seq ac_ref01_field_5 ac_ref01_field_11
def ac_ref01_field_13 : AC := .loop [0, 1, 6, 7] 1 ac_ref01_field_12
def ac_ref01_field_14 : AC := .block 0 ac_ref01_field_13
def ac_ref01_field_15 : AC := .seq ac_ref01_field_2 ac_ref01_field_14
def l_ref01_field_16 : List AOp := [⟨(some 21), .mv (.t 6), none, none, [], none⟩,
  ⟨(some 22), .b2s (.t 21), none, none, [], none⟩,
  ⟨(some 23), .mv (.t 0), none, none, [], none⟩,
  ⟨(some 24), .bin .eql (.t 23) (.k (.int .u64 0)), none, none, [], none⟩,
  ⟨(some 4), .mv (.t 22), none, none, [], none⟩,
  ⟨(some 5), .mv (.t 24), none, none, [], none⟩]
def ac_ref01_field_16 : AC := .reg l_ref01_field_16
def ac_ref01_field_17 : AC := .seq ac_ref01_field_16 .ret
def ac_ref01_field_18 : AC := .seq ac_ref01_field_15 ac_ref01_field_17
def ac_ref01_field_19 : AC := .seq ac_ref01_field_1 ac_ref01_field_18
def ac_ref01_field_20 : AC := .seq ac_ref01_field_0 ac_ref01_field_19
def ac_ref01_field : AC := ac_ref01_field_20
theorem comp_ref01_field : compF Try.prog [6] (drawR Try.prog [6] Try.f50.ntmps) [([0, 1, 6, 7], 1)] 2 Try.f50 = some (ac_ref01_field, [.t 4, .t 5]) := by kernel_rfl
def U_ref01_field := (And.intro (And.intro (And.intro (And.intro (And.intro @ac_ref01_field.eq_1 (@mR _ _ ac_ref01_field_0.eq_1)) (And.intro (@mR _ _ ac_ref01_field_1.eq_1) (@mR _ _ ac_ref01_field_2.eq_1))) (And.intro (And.intro (@mR _ _ ac_ref01_field_3.eq_1) (@mU _ _ ac_ref01_field_4.eq_1)) (And.intro (@mU _ _ ac_ref01_field_5.eq_1) (@mR _ _ ac_ref01_field_6.eq_1)))) (And.intro (And.intro (And.intro (@mR _ _ ac_ref01_field_7.eq_1) (@mU _ _ ac_ref01_field_8.eq_1)) (And.intro (@mU _ _ ac_ref01_field_9.eq_1) (@mR _ _ ac_ref01_field_10.eq_1))) (And.intro (And.intro (@mU _ _ ac_ref01_field_11.eq_1) (@mU _ _ ac_ref01_field_12.eq_1)) (@mU _ _ ac_ref01_field_13.eq_1)))) (And.intro (And.intro (And.intro (And.intro (@mU _ _ ac_ref01_field_14.eq_1) (@mU _ _ ac_ref01_field_15.eq_1)) (And.intro (@mR _ _ ac_ref01_field_16.eq_1) (@mU _ _ ac_ref01_field_17.eq_1))) (And.intro (And.intro (@mU _ _ ac_ref01_field_18.eq_1) (@mU _ _ ac_ref01_field_19.eq_1)) (And.intro (@mU _ _ ac_ref01_field_20.eq_1) @l_ref01_field_0.eq_1))) (And.intro (And.intro (And.intro @l_ref01_field_1.eq_1 @l_ref01_field_2.eq_1) (And.intro @l_ref01_field_3.eq_1 @l_ref01_field_6.eq_1)) (And.intro (And.intro @l_ref01_field_7.eq_1 @l_ref01_field_10.eq_1) @l_ref01_field_16.eq_1))))

end Go.Proofs.Ytklniadgdbjcpaa.Aw
