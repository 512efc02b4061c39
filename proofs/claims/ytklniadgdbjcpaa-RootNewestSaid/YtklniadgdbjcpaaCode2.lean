/-
  The functions of the seat, translated to abstract code. Written by a program (wip/Gen2.lean).
-/
import Derived.Test.YtklniadgdbjcpaaCode
import Derived.Test.YtklniadgdbjcpaaProg
set_option maxRecDepth 100000
set_option linter.all false
namespace Go.Proofs.Ytklniadgdbjcpaa.Aw
open Go.RowKit
/- scoria/scorialaw12.RootWrites -/
def l_law12_RootWrites_0 : List AOp := [⟨(some 4), .mv (.k (.bool false)), none, none, [], none⟩]
def ac_law12_RootWrites_0 : AC := .reg l_law12_RootWrites_0
def l_law12_RootWrites_1 : List AOp := [⟨(some 9), .mv (.t 1), none, none, [], none⟩,
  ⟨(some 10), .len (.t 9), none, none, [], none⟩,
  ⟨(some 11), .bin .gtr (.t 10) (.k (.int .i64 60)), none, none, [], none⟩]
def ac_law12_RootWrites_1 : AC := .reg l_law12_RootWrites_1
def l_law12_RootWrites_2 : List AOp := [⟨(some 12), .call false 9 [], none, none, [], none⟩,
  ⟨(some 4), .mv (.t 12), none, none, [], none⟩]
def ac_law12_RootWrites_2 : AC := .reg l_law12_RootWrites_2
def ac_law12_RootWrites_3 : AC := .seq ac_law12_RootWrites_2 .ret
def ac_law12_RootWrites_4 : AC := .cond (.t 11) ac_law12_RootWrites_3 .skip
def ac_law12_RootWrites_5 : AC := .seq ac_law12_RootWrites_1 ac_law12_RootWrites_4
def l_law12_RootWrites_6 : List AOp := [⟨(some 14), .mv (.t 0), none, none, [], none⟩,
  ⟨(some 15), .mv (.t 1), none, none, [], none⟩,
  ⟨(some 16), .call false 10 [(.t 14), (.t 15)], none, none, [], none⟩,
  ⟨(some 13), .mv (.t 16), none, none, [], none⟩,
  ⟨(some 17), .ext 0 (.t 13), none, none, [], none⟩,
  ⟨(some 18), .ext 1 (.t 13), none, none, [], none⟩,
  ⟨(some 5), .mv (.t 17), none, none, [], none⟩,
  ⟨(some 6), .mv (.t 18), none, none, [], none⟩]
def ac_law12_RootWrites_6 : AC := .reg l_law12_RootWrites_6
def l_law12_RootWrites_7 : List AOp := [⟨(some 20), .mv (.t 0), none, none, [], none⟩,
  ⟨(some 21), .mv (.t 1), none, none, [], none⟩,
  ⟨(some 22), .call false 12 [(.t 21)], none, none, [], none⟩,
  ⟨(some 23), .call false 11 [(.t 20), (.t 22)], none, none, [], none⟩,
  ⟨(some 19), .mv (.t 23), none, none, [], none⟩,
  ⟨(some 24), .ext 0 (.t 19), none, none, [], none⟩,
  ⟨(some 25), .ext 1 (.t 19), none, none, [], none⟩,
  ⟨(some 7), .mv (.t 24), none, none, [], none⟩,
  ⟨(some 8), .mv (.t 25), none, none, [], none⟩]
def ac_law12_RootWrites_7 : AC := .reg l_law12_RootWrites_7
def l_law12_RootWrites_8 : List AOp := [⟨(some 26), .call false 9 [], none, none, [], none⟩,
  ⟨(some 27), .mv (.t 26), none, none, [], none⟩,
  ⟨(some 28), .mv (.t 5), (some (27, true)), none, [], none⟩,
  ⟨(some 29), .mv (.t 7), (some (27, true)), none, [], none⟩,
  ⟨(some 30), .bin .eql (.t 28) (.t 29), (some (27, true)), none, [], none⟩,
  ⟨(some 31), .pick (.t 27) (.t 30) (.k (.bool false)), none, none, [], none⟩,
  ⟨(some 32), .mv (.t 31), none, none, [], none⟩,
  ⟨(some 33), .mv (.t 6), (some (32, true)), none, [], none⟩,
  ⟨(some 34), .mv (.t 8), (some (32, true)), none, [], none⟩,
  ⟨(some 35), .bin .eql (.t 33) (.t 34), (some (32, true)), none, [], none⟩,
  ⟨(some 36), .pick (.t 32) (.t 35) (.k (.bool false)), none, none, [], none⟩,
  ⟨(some 37), .mv (.t 36), none, none, [], none⟩,
  ⟨(some 38), .mv (.t 5), (some (37, true)), none, [], none⟩,
  ⟨(some 39), .lens (.t 38), (some (37, true)), none, [], none⟩,
  ⟨(some 40), .bin .leq (.t 39) (.k (.int .i64 100)), (some (37, true)), none, [], none⟩,
  ⟨(some 41), .pick (.t 37) (.t 40) (.k (.bool false)), none, none, [], none⟩,
  ⟨(some 4), .mv (.t 41), none, none, [], none⟩]
def ac_law12_RootWrites_8 : AC := .reg l_law12_RootWrites_8
def ac_law12_RootWrites_9 : AC := .seq ac_law12_RootWrites_8 .ret
def ac_law12_RootWrites_10 : AC := .seq ac_law12_RootWrites_7 ac_law12_RootWrites_9
def ac_law12_RootWrites_11 : AC := .seq ac_law12_RootWrites_6 ac_law12_RootWrites_10
def ac_law12_RootWrites_12 : AC := .seq ac_law12_RootWrites_5 ac_law12_RootWrites_11
def ac_law12_RootWrites_13 : AC := .seq ac_law12_RootWrites_0 ac_law12_RootWrites_12
def ac_law12_RootWrites : AC := ac_law12_RootWrites_13
theorem comp_law12_RootWrites : compF Try.prog [] (drawR Try.prog [] Try.f3.ntmps) [] 2 Try.f3 = some (ac_law12_RootWrites, [.t 4]) := by kernel_rfl
def U_law12_RootWrites := (And.intro (And.intro (And.intro (And.intro (And.intro @ac_law12_RootWrites.eq_1 (@mR _ _ ac_law12_RootWrites_0.eq_1)) (@mR _ _ ac_law12_RootWrites_1.eq_1)) (And.intro (And.intro (@mR _ _ ac_law12_RootWrites_2.eq_1) (@mU _ _ ac_law12_RootWrites_3.eq_1)) (@mU _ _ ac_law12_RootWrites_4.eq_1))) (And.intro (And.intro (And.intro (@mU _ _ ac_law12_RootWrites_5.eq_1) (@mR _ _ ac_law12_RootWrites_6.eq_1)) (@mR _ _ ac_law12_RootWrites_7.eq_1)) (And.intro (@mR _ _ ac_law12_RootWrites_8.eq_1) (@mU _ _ ac_law12_RootWrites_9.eq_1)))) (And.intro (And.intro (And.intro (And.intro (@mU _ _ ac_law12_RootWrites_10.eq_1) (@mU _ _ ac_law12_RootWrites_11.eq_1)) (@mU _ _ ac_law12_RootWrites_12.eq_1)) (And.intro (@mU _ _ ac_law12_RootWrites_13.eq_1) @l_law12_RootWrites_0.eq_1)) (And.intro (And.intro (And.intro @l_law12_RootWrites_1.eq_1 @l_law12_RootWrites_2.eq_1) @l_law12_RootWrites_6.eq_1) (And.intro @l_law12_RootWrites_7.eq_1 @l_law12_RootWrites_8.eq_1))))

/- scoria/scorialaw12.RootApart -/
def l_law12_RootApart_0 : List AOp := [⟨(some 3), .box (.t 0), none, none, [], none⟩,
  ⟨(some 6), .mv (.k (.bool false)), none, none, [], none⟩]
def ac_law12_RootApart_0 : AC := .reg l_law12_RootApart_0
def l_law12_RootApart_1 : List AOp := [⟨(some 11), .mv (.t 1), none, none, [], none⟩,
  ⟨(some 12), .len (.t 11), none, none, [], none⟩,
  ⟨(some 13), .bin .gtr (.t 12) (.k (.int .i64 60)), none, none, [], none⟩,
  ⟨(some 14), .mv (.t 13), none, none, [], none⟩,
  ⟨(some 15), .mv (.t 2), (some (14, false)), none, [], none⟩,
  ⟨(some 16), .len (.t 15), (some (14, false)), none, [], none⟩,
  ⟨(some 17), .bin .gtr (.t 16) (.k (.int .i64 60)), (some (14, false)), none, [], none⟩,
  ⟨(some 18), .pick (.t 14) (.k (.bool true)) (.t 17), none, none, [], none⟩]
def ac_law12_RootApart_1 : AC := .reg l_law12_RootApart_1
def l_law12_RootApart_2 : List AOp := [⟨(some 19), .call false 9 [], none, none, [], none⟩,
  ⟨(some 6), .mv (.t 19), none, none, [], none⟩]
def ac_law12_RootApart_2 : AC := .reg l_law12_RootApart_2
def ac_law12_RootApart_3 : AC := .seq ac_law12_RootApart_2 .ret
def ac_law12_RootApart_4 : AC := .cond (.t 18) ac_law12_RootApart_3 .skip
def ac_law12_RootApart_5 : AC := .seq ac_law12_RootApart_1 ac_law12_RootApart_4
def l_law12_RootApart_6 : List AOp := [⟨(some 21), .iarr 1 2 (.t 3) (.k (.int .i64 0)), none, none, [], none⟩,
  ⟨(some 22), .load none (.t 21), none, none, [], none⟩,
  ⟨(some 23), .mv (.t 1), none, none, [], none⟩,
  ⟨(some 24), .call false 10 [(.t 22), (.t 23)], none, none, [], none⟩,
  ⟨(some 20), .mv (.t 24), none, none, [], none⟩,
  ⟨(some 25), .ext 0 (.t 20), none, none, [], none⟩,
  ⟨(some 26), .ext 1 (.t 20), none, none, [], none⟩,
  ⟨(some 7), .mv (.t 25), none, none, [], none⟩,
  ⟨(some 8), .mv (.t 26), none, none, [], none⟩]
def ac_law12_RootApart_6 : AC := .reg l_law12_RootApart_6
def l_law12_RootApart_7 : List AOp := [⟨(some 28), .iarr 1 2 (.t 3) (.k (.int .i64 1)), none, none, [], none⟩,
  ⟨(some 29), .load none (.t 28), none, none, [], none⟩,
  ⟨(some 30), .mv (.t 2), none, none, [], none⟩,
  ⟨(some 31), .call false 10 [(.t 29), (.t 30)], none, none, [], none⟩,
  ⟨(some 27), .mv (.t 31), none, none, [], none⟩,
  ⟨(some 32), .ext 0 (.t 27), none, none, [], none⟩,
  ⟨(some 33), .ext 1 (.t 27), none, none, [], none⟩,
  ⟨(some 9), .mv (.t 32), none, none, [], none⟩,
  ⟨(some 10), .mv (.t 33), none, none, [], none⟩]
def ac_law12_RootApart_7 : AC := .reg l_law12_RootApart_7
def l_law12_RootApart_8 : List AOp := [⟨(some 34), .mv (.t 8), none, none, [], none⟩,
  ⟨(some 35), .bin .neq (.t 34) (.k (.int .i64 0)), none, none, [], none⟩,
  ⟨(some 36), .mv (.t 35), none, none, [], none⟩,
  ⟨(some 37), .mv (.t 10), (some (36, false)), none, [], none⟩,
  ⟨(some 38), .bin .neq (.t 37) (.k (.int .i64 0)), (some (36, false)), none, [], none⟩,
  ⟨(some 39), .pick (.t 36) (.k (.bool true)) (.t 38), none, none, [], none⟩]
def ac_law12_RootApart_8 : AC := .reg l_law12_RootApart_8
def l_law12_RootApart_9 : List AOp := [⟨(some 40), .call false 9 [], none, none, [], none⟩,
  ⟨(some 6), .mv (.t 40), none, none, [], none⟩]
def ac_law12_RootApart_9 : AC := .reg l_law12_RootApart_9
def ac_law12_RootApart_10 : AC := .seq ac_law12_RootApart_9 .ret
def ac_law12_RootApart_11 : AC := .cond (.t 39) ac_law12_RootApart_10 .skip
def ac_law12_RootApart_12 : AC := .seq ac_law12_RootApart_8 ac_law12_RootApart_11
def l_law12_RootApart_13 : List AOp := [⟨(some 41), .call false 9 [], none, none, [], none⟩,
  ⟨(some 42), .mv (.t 41), none, none, [], none⟩,
  ⟨(some 43), .mv (.t 7), (some (42, true)), none, [], none⟩,
  ⟨(some 44), .mv (.t 9), (some (42, true)), none, [], none⟩,
  ⟨(some 45), .bin .eql (.t 43) (.t 44), (some (42, true)), none, [], none⟩,
  ⟨(some 46), .iarr 1 2 (.t 3) (.k (.int .i64 0)), (some (42, true)), none, [], none⟩,
  ⟨(some 47), .load none (.t 46), (some (42, true)), none, [], none⟩,
  ⟨(some 48), .iarr 1 2 (.t 3) (.k (.int .i64 1)), (some (42, true)), none, [], none⟩,
  ⟨(some 49), .load none (.t 48), (some (42, true)), none, [], none⟩,
  ⟨(some 50), .bin .eql (.t 47) (.t 49), (some (42, true)), none, [], none⟩,
  ⟨(some 51), .mv (.t 50), (some (42, true)), none, [], none⟩,
  ⟨(some 52), .mv (.t 1), (some (51, true)), none, [], none⟩,
  ⟨(some 53), .call false 12 [(.t 52)], (some (51, true)), none, [], none⟩,
  ⟨(some 54), .mv (.t 2), (some (51, true)), none, [], none⟩,
  ⟨(some 55), .call false 12 [(.t 54)], (some (51, true)), none, [], none⟩,
  ⟨(some 56), .call false 13 [(.t 53), (.t 55)], (some (51, true)), none, [], none⟩,
  ⟨(some 57), .pick (.t 51) (.t 56) (.k (.bool false)), (some (42, true)), none, [], none⟩,
  ⟨(some 58), .eqb false (.t 45) (.t 57), (some (42, true)), none, [], none⟩,
  ⟨(some 59), .pick (.t 42) (.t 58) (.k (.bool false)), none, none, [], none⟩,
  ⟨(some 6), .mv (.t 59), none, none, [], none⟩]
def ac_law12_RootApart_13 : AC := .reg l_law12_RootApart_13
def ac_law12_RootApart_14 : AC := .seq ac_law12_RootApart_13 .ret
def ac_law12_RootApart_15 : AC := .seq ac_law12_RootApart_12 ac_law12_RootApart_14
def ac_law12_RootApart_16 : AC := .seq ac_law12_RootApart_7 ac_law12_RootApart_15
def ac_law12_RootApart_17 : AC := .seq ac_law12_RootApart_6 ac_law12_RootApart_16
def ac_law12_RootApart_18 : AC := .seq ac_law12_RootApart_5 ac_law12_RootApart_17
def ac_law12_RootApart_19 : AC := .seq ac_law12_RootApart_0 ac_law12_RootApart_18
def ac_law12_RootApart : AC := ac_law12_RootApart_19
theorem comp_law12_RootApart : compF Try.prog [] (drawR Try.prog [] Try.f4.ntmps) [] 3 Try.f4 = some (ac_law12_RootApart, [.t 6]) := by kernel_rfl
def U_law12_RootApart := (And.intro (And.intro (And.intro (And.intro (And.intro @ac_law12_RootApart.eq_1 (@mR _ _ ac_law12_RootApart_0.eq_1)) (And.intro (@mR _ _ ac_law12_RootApart_1.eq_1) (@mR _ _ ac_law12_RootApart_2.eq_1))) (And.intro (And.intro (@mU _ _ ac_law12_RootApart_3.eq_1) (@mU _ _ ac_law12_RootApart_4.eq_1)) (And.intro (@mU _ _ ac_law12_RootApart_5.eq_1) (@mR _ _ ac_law12_RootApart_6.eq_1)))) (And.intro (And.intro (And.intro (@mR _ _ ac_law12_RootApart_7.eq_1) (@mR _ _ ac_law12_RootApart_8.eq_1)) (And.intro (@mR _ _ ac_law12_RootApart_9.eq_1) (@mU _ _ ac_law12_RootApart_10.eq_1))) (And.intro (And.intro (@mU _ _ ac_law12_RootApart_11.eq_1) (@mU _ _ ac_law12_RootApart_12.eq_1)) (@mR _ _ ac_law12_RootApart_13.eq_1)))) (And.intro (And.intro (And.intro (And.intro (@mU _ _ ac_law12_RootApart_14.eq_1) (@mU _ _ ac_law12_RootApart_15.eq_1)) (And.intro (@mU _ _ ac_law12_RootApart_16.eq_1) (@mU _ _ ac_law12_RootApart_17.eq_1))) (And.intro (And.intro (@mU _ _ ac_law12_RootApart_18.eq_1) (@mU _ _ ac_law12_RootApart_19.eq_1)) @l_law12_RootApart_0.eq_1)) (And.intro (And.intro (And.intro @l_law12_RootApart_1.eq_1 @l_law12_RootApart_2.eq_1) (And.intro @l_law12_RootApart_6.eq_1 @l_law12_RootApart_7.eq_1)) (And.intro (And.intro @l_law12_RootApart_8.eq_1 @l_law12_RootApart_9.eq_1) @l_law12_RootApart_13.eq_1))))

/- scoria/scorialaw12.RootFinds -/
def l_law12_RootFinds_0 : List AOp := [⟨(some 4), .mv (.k (.bool false)), none, none, [], none⟩]
def ac_law12_RootFinds_0 : AC := .reg l_law12_RootFinds_0
def l_law12_RootFinds_1 : List AOp := [⟨(some 8), .mv (.t 0), none, none, [], none⟩,
  ⟨(some 9), .len (.t 8), none, none, [], none⟩,
  ⟨(some 10), .bin .gtr (.t 9) (.k (.int .i64 60)), none, none, [], none⟩]
def ac_law12_RootFinds_1 : AC := .reg l_law12_RootFinds_1
def l_law12_RootFinds_2 : List AOp := [⟨(some 11), .call false 9 [], none, none, [], none⟩,
  ⟨(some 4), .mv (.t 11), none, none, [], none⟩]
def ac_law12_RootFinds_2 : AC := .reg l_law12_RootFinds_2
def ac_law12_RootFinds_3 : AC := .seq ac_law12_RootFinds_2 .ret
def ac_law12_RootFinds_4 : AC := .cond (.t 10) ac_law12_RootFinds_3 .skip
def ac_law12_RootFinds_5 : AC := .seq ac_law12_RootFinds_1 ac_law12_RootFinds_4
def l_law12_RootFinds_6 : List AOp := [⟨(some 13), .mv (.t 0), none, none, [], none⟩,
  ⟨(some 14), .mv (.t 1), none, none, [], none⟩,
  ⟨(some 15), .call false 14 [(.t 13), (.t 14)], none, none, [], none⟩,
  ⟨(some 12), .mv (.t 15), none, none, [], none⟩,
  ⟨(some 16), .ext 0 (.t 12), none, none, [], none⟩,
  ⟨(some 17), .ext 1 (.t 12), none, none, [], none⟩,
  ⟨(some 5), .alloc [(.int .i64 0), (.int .i64 0), (.int .i64 0), (.int .i64 0)], none, none, [], none⟩,
  ⟨none, .store 4 (.t 5) (.t 16), none, none, [], none⟩,
  ⟨(some 6), .mv (.t 17), none, none, [], none⟩]
def ac_law12_RootFinds_6 : AC := .reg l_law12_RootFinds_6
def l_law12_RootFinds_7 : List AOp := [⟨(some 7), .mv (.k (.int .i64 0)), none, none, [], none⟩]
def ac_law12_RootFinds_7 : AC := .reg l_law12_RootFinds_7
def l_law12_RootFinds_8 : List AOp := [⟨(some 18), .mv (.t 7), none, none, [], none⟩,
  ⟨(some 19), .mv (.t 0), none, none, [], none⟩,
  ⟨(some 20), .len (.t 19), none, none, [], none⟩,
  ⟨(some 21), .bin .lss (.t 18) (.t 20), none, none, [], none⟩]
def ac_law12_RootFinds_8 : AC := .reg l_law12_RootFinds_8
def ac_law12_RootFinds_9 : AC := .cond (.t 21) .skip (.exit 0)
def ac_law12_RootFinds_10 : AC := .seq ac_law12_RootFinds_8 ac_law12_RootFinds_9
def l_law12_RootFinds_11 : List AOp := [⟨(some 24), .mv (.t 0), none, none, [], none⟩,
  ⟨(some 25), .mv (.t 7), none, none, [], none⟩,
  ⟨(some 26), .isl 4 (.t 24) (.t 25), none, none, [], none⟩,
  ⟨(some 27), .faddr 0 (.t 26), none, none, [], none⟩,
  ⟨(some 28), .load none (.t 27), none, none, [], none⟩,
  ⟨(some 29), .mv (.t 1), none, none, [], none⟩,
  ⟨(some 30), .bin .eql (.t 28) (.t 29), none, none, [], none⟩]
def ac_law12_RootFinds_11 : AC := .reg l_law12_RootFinds_11
def l_law12_RootFinds_12 : List AOp := [⟨(some 31), .call false 9 [], none, none, [], none⟩,
  ⟨(some 32), .mv (.t 31), none, none, [], none⟩,
  ⟨(some 33), .mv (.t 6), (some (32, true)), none, [], none⟩,
  ⟨(some 34), .pick (.t 32) (.t 33) (.k (.bool false)), none, none, [], none⟩,
  ⟨(some 35), .mv (.t 34), none, none, [], none⟩,
  ⟨(some 36), .load (some 4) (.t 5), (some (35, true)), none, [], none⟩,
  ⟨(some 37), .mv (.t 0), (some (35, true)), none, [], none⟩,
  ⟨(some 38), .mv (.t 7), (some (35, true)), none, [], none⟩,
  ⟨(some 39), .isl 4 (.t 37) (.t 38), (some (35, true)), none, [], none⟩,
  ⟨(some 40), .load (some 4) (.t 39), (some (35, true)), none, [], none⟩,
  ⟨(some 41), .eqs false [.i, .i, .i, .i] (.t 36) (.t 40), (some (35, true)), none, [], none⟩,
  ⟨(some 42), .pick (.t 35) (.t 41) (.k (.bool false)), none, none, [], none⟩,
  ⟨(some 4), .mv (.t 42), none, none, [], none⟩]
def ac_law12_RootFinds_12 : AC := .dreg 0 l_law12_RootFinds_12
def ac_law12_RootFinds_13 : AC := .seq ac_law12_RootFinds_12 .ret
def ac_law12_RootFinds_14 : AC := .cond (.t 30) ac_law12_RootFinds_13 .skip
def ac_law12_RootFinds_15 : AC := .seq ac_law12_RootFinds_11 ac_law12_RootFinds_14
def ac_law12_RootFinds_16 : AC := .block 1 ac_law12_RootFinds_15
def l_law12_RootFinds_17 : List AOp := [⟨(some 22), .mv (.t 7), none, none, [], none⟩,
  ⟨(some 23), .bin .add (.t 22) (.k (.int .i64 1)), none, none, [], none⟩,
  ⟨(some 7), .mv (.t 23), none, none, [], none⟩]
def ac_law12_RootFinds_17 : AC := .reg l_law12_RootFinds_17
def ac_law12_RootFinds_18 : AC := .seq ac_law12_RootFinds_16 ac_law12_RootFinds_17
def ac_law12_RootFinds_19 : AC := .seq ac_law12_RootFinds_10 ac_law12_RootFinds_18
def ac_law12_RootFinds_20 : AC := .loop [0, 1, 5, 6, 7] 1 ac_law12_RootFinds_19
def ac_law12_RootFinds_21 : AC := .block 0 ac_law12_RootFinds_20
def ac_law12_RootFinds_22 : AC := .seq ac_law12_RootFinds_7 ac_law12_RootFinds_21
def l_law12_RootFinds_23 : List AOp := [⟨(some 43), .call false 9 [], none, none, [], none⟩,
  ⟨(some 44), .mv (.t 43), none, none, [], none⟩,
  ⟨(some 45), .mv (.t 6), (some (44, true)), none, [], none⟩,
  ⟨(some 46), .un .not (.t 45), (some (44, true)), none, [], none⟩,
  ⟨(some 47), .pick (.t 44) (.t 46) (.k (.bool false)), none, none, [], none⟩,
  ⟨(some 48), .mv (.t 47), none, none, [], none⟩,
  ⟨(some 49), .load (some 4) (.t 5), (some (48, true)), none, [], none⟩,
  ⟨(some 50), .build [(.int .i64 0), (.int .i64 0), (.int .i64 0), (.int .i64 0)] [], (some (48, true)), none, [], none⟩,
  ⟨(some 51), .eqs false [.i, .i, .i, .i] (.t 49) (.t 50), (some (48, true)), none, [], none⟩,
  ⟨(some 52), .pick (.t 48) (.t 51) (.k (.bool false)), none, none, [], none⟩,
  ⟨(some 4), .mv (.t 52), none, none, [], none⟩]
def ac_law12_RootFinds_23 : AC := .reg l_law12_RootFinds_23
def ac_law12_RootFinds_24 : AC := .seq ac_law12_RootFinds_23 .ret
def ac_law12_RootFinds_25 : AC := .seq ac_law12_RootFinds_22 ac_law12_RootFinds_24
def ac_law12_RootFinds_26 : AC := .seq ac_law12_RootFinds_6 ac_law12_RootFinds_25
def ac_law12_RootFinds_27 : AC := .seq ac_law12_RootFinds_5 ac_law12_RootFinds_26
def ac_law12_RootFinds_28 : AC := .seq ac_law12_RootFinds_0 ac_law12_RootFinds_27
def ac_law12_RootFinds : AC := ac_law12_RootFinds_28
theorem comp_law12_RootFinds : compF Try.prog [] (drawR Try.prog [] Try.f5.ntmps) [([0, 1, 5, 6, 7], 1)] 2 Try.f5 = some (ac_law12_RootFinds, [.t 4]) := by kernel_rfl
def U_law12_RootFinds := (And.intro (And.intro (And.intro (And.intro (And.intro (And.intro @ac_law12_RootFinds.eq_1 (@mR _ _ ac_law12_RootFinds_0.eq_1)) (@mR _ _ ac_law12_RootFinds_1.eq_1)) (And.intro (@mR _ _ ac_law12_RootFinds_2.eq_1) (@mU _ _ ac_law12_RootFinds_3.eq_1))) (And.intro (And.intro (And.intro (@mU _ _ ac_law12_RootFinds_4.eq_1) (@mU _ _ ac_law12_RootFinds_5.eq_1)) (@mR _ _ ac_law12_RootFinds_6.eq_1)) (And.intro (@mR _ _ ac_law12_RootFinds_7.eq_1) (@mR _ _ ac_law12_RootFinds_8.eq_1)))) (And.intro (And.intro (And.intro (And.intro (@mU _ _ ac_law12_RootFinds_9.eq_1) (@mU _ _ ac_law12_RootFinds_10.eq_1)) (@mR _ _ ac_law12_RootFinds_11.eq_1)) (And.intro (@mD _ _ _ ac_law12_RootFinds_12.eq_1) (@mU _ _ ac_law12_RootFinds_13.eq_1))) (And.intro (And.intro (And.intro (@mU _ _ ac_law12_RootFinds_14.eq_1) (@mU _ _ ac_law12_RootFinds_15.eq_1)) (@mU _ _ ac_law12_RootFinds_16.eq_1)) (And.intro (@mR _ _ ac_law12_RootFinds_17.eq_1) (@mU _ _ ac_law12_RootFinds_18.eq_1))))) (And.intro (And.intro (And.intro (And.intro (And.intro (@mU _ _ ac_law12_RootFinds_19.eq_1) (@mU _ _ ac_law12_RootFinds_20.eq_1)) (@mU _ _ ac_law12_RootFinds_21.eq_1)) (And.intro (@mU _ _ ac_law12_RootFinds_22.eq_1) (@mR _ _ ac_law12_RootFinds_23.eq_1))) (And.intro (And.intro (And.intro (@mU _ _ ac_law12_RootFinds_24.eq_1) (@mU _ _ ac_law12_RootFinds_25.eq_1)) (@mU _ _ ac_law12_RootFinds_26.eq_1)) (And.intro (@mU _ _ ac_law12_RootFinds_27.eq_1) (@mU _ _ ac_law12_RootFinds_28.eq_1)))) (And.intro (And.intro (And.intro (And.intro @l_law12_RootFinds_0.eq_1 @l_law12_RootFinds_1.eq_1) @l_law12_RootFinds_2.eq_1) (And.intro @l_law12_RootFinds_6.eq_1 @l_law12_RootFinds_7.eq_1)) (And.intro (And.intro (And.intro @l_law12_RootFinds_8.eq_1 @l_law12_RootFinds_11.eq_1) @l_law12_RootFinds_12.eq_1) (And.intro @l_law12_RootFinds_17.eq_1 @l_law12_RootFinds_23.eq_1)))))

/- scoria/scorialaw12.RootReads -/
def l_law12_RootReads_0 : List AOp := [⟨(some 2), .mv (.k (.bool false)), none, none, [], none⟩]
def ac_law12_RootReads_0 : AC := .reg l_law12_RootReads_0
def l_law12_RootReads_1 : List AOp := [⟨(some 9), .mv (.t 0), none, none, [], none⟩,
  ⟨(some 10), .lens (.t 9), none, none, [], none⟩,
  ⟨(some 11), .bin .gtr (.t 10) (.k (.int .i64 2000)), none, none, [], none⟩]
def ac_law12_RootReads_1 : AC := .reg l_law12_RootReads_1
def l_law12_RootReads_2 : List AOp := [⟨(some 12), .call false 9 [], none, none, [], none⟩,
  ⟨(some 2), .mv (.t 12), none, none, [], none⟩]
def ac_law12_RootReads_2 : AC := .reg l_law12_RootReads_2
def ac_law12_RootReads_3 : AC := .seq ac_law12_RootReads_2 .ret
def ac_law12_RootReads_4 : AC := .cond (.t 11) ac_law12_RootReads_3 .skip
def ac_law12_RootReads_5 : AC := .seq ac_law12_RootReads_1 ac_law12_RootReads_4
def l_law12_RootReads_6 : List AOp := [⟨(some 14), .mv (.t 0), none, none, [], none⟩,
  ⟨(some 15), .call false 15 [(.t 14)], none, none, [], none⟩,
  ⟨(some 13), .mv (.t 15), none, none, [], none⟩,
  ⟨(some 16), .ext 0 (.t 13), none, none, [], none⟩,
  ⟨(some 17), .ext 1 (.t 13), none, none, [], none⟩,
  ⟨(some 18), .ext 2 (.t 13), none, none, [], none⟩,
  ⟨(some 3), .mv (.t 16), none, none, [], none⟩,
  ⟨(some 4), .mv (.t 17), none, none, [], none⟩,
  ⟨(some 5), .mv (.t 18), none, none, [], none⟩]
def ac_law12_RootReads_6 : AC := .reg l_law12_RootReads_6
def l_law12_RootReads_7 : List AOp := [⟨(some 20), .mv (.t 0), none, none, [], none⟩,
  ⟨(some 21), .call false 16 [(.t 20)], none, none, [], none⟩,
  ⟨(some 19), .mv (.t 21), none, none, [], none⟩,
  ⟨(some 22), .ext 0 (.t 19), none, none, [], none⟩,
  ⟨(some 23), .ext 1 (.t 19), none, none, [], none⟩,
  ⟨(some 24), .ext 2 (.t 19), none, none, [], none⟩,
  ⟨(some 6), .mv (.t 22), none, none, [], none⟩,
  ⟨(some 7), .mv (.t 23), none, none, [], none⟩,
  ⟨(some 8), .mv (.t 24), none, none, [], none⟩]
def ac_law12_RootReads_7 : AC := .reg l_law12_RootReads_7
def l_law12_RootReads_8 : List AOp := [⟨(some 25), .call false 9 [], none, none, [], none⟩,
  ⟨(some 26), .mv (.t 25), none, none, [], none⟩,
  ⟨(some 27), .mv (.t 3), (some (26, true)), none, [], none⟩,
  ⟨(some 28), .mv (.t 6), (some (26, true)), none, [], none⟩,
  ⟨(some 29), .bin .eql (.t 27) (.t 28), (some (26, true)), none, [], none⟩,
  ⟨(some 30), .pick (.t 26) (.t 29) (.k (.bool false)), none, none, [], none⟩,
  ⟨(some 31), .mv (.t 30), none, none, [], none⟩,
  ⟨(some 32), .mv (.t 4), (some (31, true)), none, [], none⟩,
  ⟨(some 33), .call false 12 [(.t 32)], (some (31, true)), none, [], none⟩,
  ⟨(some 34), .mv (.t 7), (some (31, true)), none, [], none⟩,
  ⟨(some 35), .call false 13 [(.t 33), (.t 34)], (some (31, true)), none, [], none⟩,
  ⟨(some 36), .pick (.t 31) (.t 35) (.k (.bool false)), none, none, [], none⟩,
  ⟨(some 37), .mv (.t 36), none, none, [], none⟩,
  ⟨(some 38), .mv (.t 5), (some (37, true)), none, [], none⟩,
  ⟨(some 39), .mv (.t 8), (some (37, true)), none, [], none⟩,
  ⟨(some 40), .bin .eql (.t 38) (.t 39), (some (37, true)), none, [], none⟩,
  ⟨(some 41), .pick (.t 37) (.t 40) (.k (.bool false)), none, none, [], none⟩,
  ⟨(some 2), .mv (.t 41), none, none, [], none⟩]
def ac_law12_RootReads_8 : AC := .reg l_law12_RootReads_8
def ac_law12_RootReads_9 : AC := .seq ac_law12_RootReads_8 .ret
def ac_law12_RootReads_10 : AC := .seq ac_law12_RootReads_7 ac_law12_RootReads_9
def ac_law12_RootReads_11 : AC := .seq ac_law12_RootReads_6 ac_law12_RootReads_10
def ac_law12_RootReads_12 : AC := .seq ac_law12_RootReads_5 ac_law12_RootReads_11
def ac_law12_RootReads_13 : AC := .seq ac_law12_RootReads_0 ac_law12_RootReads_12
def ac_law12_RootReads : AC := ac_law12_RootReads_13
theorem comp_law12_RootReads : compF Try.prog [] (drawR Try.prog [] Try.f6.ntmps) [] 1 Try.f6 = some (ac_law12_RootReads, [.t 2]) := by kernel_rfl
def U_law12_RootReads := (And.intro (And.intro (And.intro (And.intro (And.intro @ac_law12_RootReads.eq_1 (@mR _ _ ac_law12_RootReads_0.eq_1)) (@mR _ _ ac_law12_RootReads_1.eq_1)) (And.intro (And.intro (@mR _ _ ac_law12_RootReads_2.eq_1) (@mU _ _ ac_law12_RootReads_3.eq_1)) (@mU _ _ ac_law12_RootReads_4.eq_1))) (And.intro (And.intro (And.intro (@mU _ _ ac_law12_RootReads_5.eq_1) (@mR _ _ ac_law12_RootReads_6.eq_1)) (@mR _ _ ac_law12_RootReads_7.eq_1)) (And.intro (@mR _ _ ac_law12_RootReads_8.eq_1) (@mU _ _ ac_law12_RootReads_9.eq_1)))) (And.intro (And.intro (And.intro (And.intro (@mU _ _ ac_law12_RootReads_10.eq_1) (@mU _ _ ac_law12_RootReads_11.eq_1)) (@mU _ _ ac_law12_RootReads_12.eq_1)) (And.intro (@mU _ _ ac_law12_RootReads_13.eq_1) @l_law12_RootReads_0.eq_1)) (And.intro (And.intro (And.intro @l_law12_RootReads_1.eq_1 @l_law12_RootReads_2.eq_1) @l_law12_RootReads_6.eq_1) (And.intro @l_law12_RootReads_7.eq_1 @l_law12_RootReads_8.eq_1))))

/- scoria/scorialaw12.RootBack -/
def l_law12_RootBack_0 : List AOp := [⟨(some 6), .mv (.k (.bool false)), none, none, [], none⟩]
def ac_law12_RootBack_0 : AC := .reg l_law12_RootBack_0
def l_law12_RootBack_1 : List AOp := [⟨(some 15), .mv (.t 1), none, none, [], none⟩,
  ⟨(some 16), .len (.t 15), none, none, [], none⟩,
  ⟨(some 17), .bin .gtr (.t 16) (.k (.int .i64 60)), none, none, [], none⟩,
  ⟨(some 18), .mv (.t 17), none, none, [], none⟩,
  ⟨(some 19), .mv (.t 2), (some (18, false)), none, [], none⟩,
  ⟨(some 20), .lens (.t 19), (some (18, false)), none, [], none⟩,
  ⟨(some 21), .bin .gtr (.t 20) (.k (.int .i64 2000)), (some (18, false)), none, [], none⟩,
  ⟨(some 22), .pick (.t 18) (.k (.bool true)) (.t 21), none, none, [], none⟩]
def ac_law12_RootBack_1 : AC := .reg l_law12_RootBack_1
def l_law12_RootBack_2 : List AOp := [⟨(some 23), .call false 9 [], none, none, [], none⟩,
  ⟨(some 6), .mv (.t 23), none, none, [], none⟩]
def ac_law12_RootBack_2 : AC := .reg l_law12_RootBack_2
def ac_law12_RootBack_3 : AC := .seq ac_law12_RootBack_2 .ret
def ac_law12_RootBack_4 : AC := .cond (.t 22) ac_law12_RootBack_3 .skip
def ac_law12_RootBack_5 : AC := .seq ac_law12_RootBack_1 ac_law12_RootBack_4
def l_law12_RootBack_6 : List AOp := [⟨(some 25), .mv (.t 0), none, none, [], none⟩,
  ⟨(some 26), .mv (.t 1), none, none, [], none⟩,
  ⟨(some 27), .call false 10 [(.t 25), (.t 26)], none, none, [], none⟩,
  ⟨(some 24), .mv (.t 27), none, none, [], none⟩,
  ⟨(some 28), .ext 0 (.t 24), none, none, [], none⟩,
  ⟨(some 29), .ext 1 (.t 24), none, none, [], none⟩,
  ⟨(some 7), .mv (.t 28), none, none, [], none⟩,
  ⟨(some 8), .mv (.t 29), none, none, [], none⟩]
def ac_law12_RootBack_6 : AC := .reg l_law12_RootBack_6
def l_law12_RootBack_7 : List AOp := [⟨(some 30), .mv (.t 8), none, none, [], none⟩,
  ⟨(some 31), .bin .eql (.t 30) (.k (.int .i64 0)), none, none, [], none⟩]
def ac_law12_RootBack_7 : AC := .reg l_law12_RootBack_7
def l_law12_RootBack_8 : List AOp := [⟨(some 33), .mv (.t 7), none, none, [], none⟩,
  ⟨(some 34), .call false 15 [(.t 33)], none, none, [], none⟩,
  ⟨(some 32), .mv (.t 34), none, none, [], none⟩,
  ⟨(some 35), .ext 0 (.t 32), none, none, [], none⟩,
  ⟨(some 36), .ext 1 (.t 32), none, none, [], none⟩,
  ⟨(some 37), .ext 2 (.t 32), none, none, [], none⟩,
  ⟨(some 9), .mv (.t 35), none, none, [], none⟩,
  ⟨(some 10), .mv (.t 36), none, none, [], none⟩,
  ⟨(some 11), .mv (.t 37), none, none, [], none⟩]
def ac_law12_RootBack_8 : AC := .reg l_law12_RootBack_8
def l_law12_RootBack_9 : List AOp := [⟨(some 38), .mv (.t 11), none, none, [], none⟩,
  ⟨(some 39), .bin .neq (.t 38) (.k (.int .i64 0)), none, none, [], none⟩,
  ⟨(some 40), .mv (.t 39), none, none, [], none⟩,
  ⟨(some 41), .mv (.t 9), (some (40, false)), none, [], none⟩,
  ⟨(some 42), .mv (.t 0), (some (40, false)), none, [], none⟩,
  ⟨(some 43), .bin .neq (.t 41) (.t 42), (some (40, false)), none, [], none⟩,
  ⟨(some 44), .pick (.t 40) (.k (.bool true)) (.t 43), none, none, [], none⟩,
  ⟨(some 45), .mv (.t 44), none, none, [], none⟩,
  ⟨(some 46), .mv (.t 10), (some (45, false)), none, [], none⟩,
  ⟨(some 47), .call false 12 [(.t 46)], (some (45, false)), none, [], none⟩,
  ⟨(some 48), .mv (.t 1), (some (45, false)), none, [], none⟩,
  ⟨(some 49), .call false 12 [(.t 48)], (some (45, false)), none, [], none⟩,
  ⟨(some 50), .call false 13 [(.t 47), (.t 49)], (some (45, false)), none, [], none⟩,
  ⟨(some 51), .un .not (.t 50), (some (45, false)), none, [], none⟩,
  ⟨(some 52), .pick (.t 45) (.k (.bool true)) (.t 51), none, none, [], none⟩]
def ac_law12_RootBack_9 : AC := .reg l_law12_RootBack_9
def l_law12_RootBack_10 : List AOp := [⟨(some 6), .mv (.k (.bool false)), none, none, [], none⟩]
def ac_law12_RootBack_10 : AC := .reg l_law12_RootBack_10
def ac_law12_RootBack_11 : AC := .seq ac_law12_RootBack_10 .ret
def ac_law12_RootBack_12 : AC := .cond (.t 52) ac_law12_RootBack_11 .skip
def ac_law12_RootBack_13 : AC := .seq ac_law12_RootBack_9 ac_law12_RootBack_12
def ac_law12_RootBack_14 : AC := .seq ac_law12_RootBack_8 ac_law12_RootBack_13
def ac_law12_RootBack_15 : AC := .cond (.t 31) ac_law12_RootBack_14 .skip
def ac_law12_RootBack_16 : AC := .seq ac_law12_RootBack_7 ac_law12_RootBack_15
def l_law12_RootBack_17 : List AOp := [⟨(some 54), .mv (.t 2), none, none, [], none⟩,
  ⟨(some 55), .call false 15 [(.t 54)], none, none, [], none⟩,
  ⟨(some 53), .mv (.t 55), none, none, [], none⟩,
  ⟨(some 56), .ext 0 (.t 53), none, none, [], none⟩,
  ⟨(some 57), .ext 1 (.t 53), none, none, [], none⟩,
  ⟨(some 58), .ext 2 (.t 53), none, none, [], none⟩,
  ⟨(some 12), .mv (.t 56), none, none, [], none⟩,
  ⟨(some 13), .mv (.t 57), none, none, [], none⟩,
  ⟨(some 14), .mv (.t 58), none, none, [], none⟩]
def ac_law12_RootBack_17 : AC := .reg l_law12_RootBack_17
def l_law12_RootBack_18 : List AOp := [⟨(some 59), .mv (.t 14), none, none, [], none⟩,
  ⟨(some 60), .bin .neq (.t 59) (.k (.int .i64 0)), none, none, [], none⟩]
def ac_law12_RootBack_18 : AC := .reg l_law12_RootBack_18
def l_law12_RootBack_19 : List AOp := [⟨(some 61), .call false 9 [], none, none, [], none⟩,
  ⟨(some 62), .mv (.t 61), none, none, [], none⟩,
  ⟨(some 63), .mv (.t 12), (some (62, true)), none, [], none⟩,
  ⟨(some 64), .bin .eql (.t 63) (.k (.int .i64 0)), (some (62, true)), none, [], none⟩,
  ⟨(some 65), .pick (.t 62) (.t 64) (.k (.bool false)), none, none, [], none⟩,
  ⟨(some 66), .mv (.t 65), none, none, [], none⟩,
  ⟨(some 67), .mv (.t 13), (some (66, true)), none, [], none⟩,
  ⟨(some 68), .len (.t 67), (some (66, true)), none, [], none⟩,
  ⟨(some 69), .bin .eql (.t 68) (.k (.int .i64 0)), (some (66, true)), none, [], none⟩,
  ⟨(some 70), .pick (.t 66) (.t 69) (.k (.bool false)), none, none, [], none⟩,
  ⟨(some 6), .mv (.t 70), none, none, [], none⟩]
def ac_law12_RootBack_19 : AC := .reg l_law12_RootBack_19
def ac_law12_RootBack_20 : AC := .seq ac_law12_RootBack_19 .ret
def ac_law12_RootBack_21 : AC := .cond (.t 60) ac_law12_RootBack_20 .skip
def ac_law12_RootBack_22 : AC := .seq ac_law12_RootBack_18 ac_law12_RootBack_21
def l_law12_RootBack_23 : List AOp := [⟨(some 72), .mv (.t 12), none, none, [], none⟩,
  ⟨(some 73), .mv (.t 13), none, none, [], none⟩,
  ⟨(some 74), .call false 10 [(.t 72), (.t 73)], none, none, [], none⟩,
  ⟨(some 71), .mv (.t 74), none, none, [], none⟩,
  ⟨(some 75), .ext 0 (.t 71), none, none, [], none⟩,
  ⟨(some 76), .ext 1 (.t 71), none, none, [], none⟩,
  ⟨(some 7), .mv (.t 75), none, none, [], none⟩,
  ⟨(some 8), .mv (.t 76), none, none, [], none⟩]
def ac_law12_RootBack_23 : AC := .reg l_law12_RootBack_23
def l_law12_RootBack_24 : List AOp := [⟨(some 77), .call false 9 [], none, none, [], none⟩,
  ⟨(some 78), .mv (.t 77), none, none, [], none⟩,
  ⟨(some 79), .mv (.t 8), (some (78, true)), none, [], none⟩,
  ⟨(some 80), .bin .eql (.t 79) (.k (.int .i64 0)), (some (78, true)), none, [], none⟩,
  ⟨(some 81), .pick (.t 78) (.t 80) (.k (.bool false)), none, none, [], none⟩,
  ⟨(some 82), .mv (.t 81), none, none, [], none⟩,
  ⟨(some 83), .mv (.t 7), (some (82, true)), none, [], none⟩,
  ⟨(some 84), .mv (.t 2), (some (82, true)), none, [], none⟩,
  ⟨(some 85), .bin .eql (.t 83) (.t 84), (some (82, true)), none, [], none⟩,
  ⟨(some 86), .pick (.t 82) (.t 85) (.k (.bool false)), none, none, [], none⟩,
  ⟨(some 6), .mv (.t 86), none, none, [], none⟩]
def ac_law12_RootBack_24 : AC := .reg l_law12_RootBack_24
def ac_law12_RootBack_25 : AC := .seq ac_law12_RootBack_24 .ret
def ac_law12_RootBack_26 : AC := .seq ac_law12_RootBack_23 ac_law12_RootBack_25
def ac_law12_RootBack_27 : AC := .seq ac_law12_RootBack_22 ac_law12_RootBack_26
def ac_law12_RootBack_28 : AC := .seq ac_law12_RootBack_17 ac_law12_RootBack_27
def ac_law12_RootBack_29 : AC := .seq ac_law12_RootBack_16 ac_law12_RootBack_28
def ac_law12_RootBack_30 : AC := .seq ac_law12_RootBack_6 ac_law12_RootBack_29
def ac_law12_RootBack_31 : AC := .seq ac_law12_RootBack_5 ac_law12_RootBack_30
def ac_law12_RootBack_32 : AC := .seq ac_law12_RootBack_0 ac_law12_RootBack_31
def ac_law12_RootBack : AC := ac_law12_RootBack_32
theorem comp_law12_RootBack : compF Try.prog [] (drawR Try.prog [] Try.f7.ntmps) [] 3 Try.f7 = some (ac_law12_RootBack, [.t 6]) := by kernel_rfl
def U_law12_RootBack := (And.intro (And.intro (And.intro (And.intro (And.intro (And.intro @ac_law12_RootBack.eq_1 (@mR _ _ ac_law12_RootBack_0.eq_1)) (@mR _ _ ac_law12_RootBack_1.eq_1)) (And.intro (And.intro (@mR _ _ ac_law12_RootBack_2.eq_1) (@mU _ _ ac_law12_RootBack_3.eq_1)) (@mU _ _ ac_law12_RootBack_4.eq_1))) (And.intro (And.intro (And.intro (@mU _ _ ac_law12_RootBack_5.eq_1) (@mR _ _ ac_law12_RootBack_6.eq_1)) (@mR _ _ ac_law12_RootBack_7.eq_1)) (And.intro (And.intro (@mR _ _ ac_law12_RootBack_8.eq_1) (@mR _ _ ac_law12_RootBack_9.eq_1)) (@mR _ _ ac_law12_RootBack_10.eq_1)))) (And.intro (And.intro (And.intro (And.intro (@mU _ _ ac_law12_RootBack_11.eq_1) (@mU _ _ ac_law12_RootBack_12.eq_1)) (@mU _ _ ac_law12_RootBack_13.eq_1)) (And.intro (And.intro (@mU _ _ ac_law12_RootBack_14.eq_1) (@mU _ _ ac_law12_RootBack_15.eq_1)) (@mU _ _ ac_law12_RootBack_16.eq_1))) (And.intro (And.intro (And.intro (@mR _ _ ac_law12_RootBack_17.eq_1) (@mR _ _ ac_law12_RootBack_18.eq_1)) (@mR _ _ ac_law12_RootBack_19.eq_1)) (And.intro (And.intro (@mU _ _ ac_law12_RootBack_20.eq_1) (@mU _ _ ac_law12_RootBack_21.eq_1)) (@mU _ _ ac_law12_RootBack_22.eq_1))))) (And.intro (And.intro (And.intro (And.intro (And.intro (@mR _ _ ac_law12_RootBack_23.eq_1) (@mR _ _ ac_law12_RootBack_24.eq_1)) (@mU _ _ ac_law12_RootBack_25.eq_1)) (And.intro (And.intro (@mU _ _ ac_law12_RootBack_26.eq_1) (@mU _ _ ac_law12_RootBack_27.eq_1)) (@mU _ _ ac_law12_RootBack_28.eq_1))) (And.intro (And.intro (And.intro (@mU _ _ ac_law12_RootBack_29.eq_1) (@mU _ _ ac_law12_RootBack_30.eq_1)) (@mU _ _ ac_law12_RootBack_31.eq_1)) (And.intro (And.intro (@mU _ _ ac_law12_RootBack_32.eq_1) @l_law12_RootBack_0.eq_1) @l_law12_RootBack_1.eq_1))) (And.intro (And.intro (And.intro (And.intro @l_law12_RootBack_2.eq_1 @l_law12_RootBack_6.eq_1) @l_law12_RootBack_7.eq_1) (And.intro (And.intro @l_law12_RootBack_8.eq_1 @l_law12_RootBack_9.eq_1) @l_law12_RootBack_10.eq_1)) (And.intro (And.intro (And.intro @l_law12_RootBack_17.eq_1 @l_law12_RootBack_18.eq_1) @l_law12_RootBack_19.eq_1) (And.intro @l_law12_RootBack_23.eq_1 @l_law12_RootBack_24.eq_1)))))

end Go.Proofs.Ytklniadgdbjcpaa.Aw
