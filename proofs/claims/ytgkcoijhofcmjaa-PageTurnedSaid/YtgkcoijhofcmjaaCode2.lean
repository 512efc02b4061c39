/-
  The functions of the seat, translated to abstract code. Written by a program (wip/Gen2.lean).
-/
import Derived.Test.YtgkcoijhofcmjaaAwBun
import Derived.Test.YtgkcoijhofcmjaaProg
set_option maxRecDepth 100000
set_option linter.all false
namespace Go.Proofs.Ytgkcoijhofcmjaa.Aw
open Go.RowKit
/- scoria/scorialaw05.PageWrites -/
def l_law05_PageWrites_0 : List AOp := [⟨(some 1), .box (.t 0), none, none, [], none⟩,
  ⟨(some 2), .mv (.k (.bool false)), none, none, [], none⟩]
def ac_law05_PageWrites_0 : AC := .reg l_law05_PageWrites_0
def l_law05_PageWrites_1 : List AOp := [⟨(some 7), .faddr 4 (.t 1), none, none, [], none⟩,
  ⟨(some 8), .load none (.t 7), none, none, [], none⟩,
  ⟨(some 9), .lens (.t 8), none, none, [], none⟩,
  ⟨(some 10), .bin .gtr (.t 9) (.k (.int .i64 20000)), none, none, [], none⟩]
def ac_law05_PageWrites_1 : AC := .reg l_law05_PageWrites_1
def l_law05_PageWrites_2 : List AOp := [⟨(some 11), .call false 10 [], none, none, [], none⟩,
  ⟨(some 2), .mv (.t 11), none, none, [], none⟩]
def ac_law05_PageWrites_2 : AC := .reg l_law05_PageWrites_2
def ac_law05_PageWrites_3 : AC := .seq ac_law05_PageWrites_2 .ret
def ac_law05_PageWrites_4 : AC := .cond (.t 10) ac_law05_PageWrites_3 .skip
def ac_law05_PageWrites_5 : AC := .seq ac_law05_PageWrites_1 ac_law05_PageWrites_4
def l_law05_PageWrites_6 : List AOp := [⟨(some 13), .load (some 5) (.t 1), none, none, [], none⟩,
  ⟨(some 14), .call false 11 [(.t 13)], none, none, [], none⟩,
  ⟨(some 12), .mv (.t 14), none, none, [], none⟩,
  ⟨(some 15), .ext 0 (.t 12), none, none, [], none⟩,
  ⟨(some 16), .ext 1 (.t 12), none, none, [], none⟩,
  ⟨(some 3), .mv (.t 15), none, none, [], none⟩,
  ⟨(some 4), .mv (.t 16), none, none, [], none⟩]
def ac_law05_PageWrites_6 : AC := .reg l_law05_PageWrites_6
def l_law05_PageWrites_7 : List AOp := [⟨(some 18), .load (some 5) (.t 1), none, none, [], none⟩,
  ⟨(some 19), .call false 12 [(.t 18)], none, none, [], none⟩,
  ⟨(some 17), .mv (.t 19), none, none, [], none⟩,
  ⟨(some 20), .ext 0 (.t 17), none, none, [], none⟩,
  ⟨(some 21), .ext 1 (.t 17), none, none, [], none⟩,
  ⟨(some 5), .mv (.t 20), none, none, [], none⟩,
  ⟨(some 6), .mv (.t 21), none, none, [], none⟩]
def ac_law05_PageWrites_7 : AC := .reg l_law05_PageWrites_7
def l_law05_PageWrites_8 : List AOp := [⟨(some 22), .call false 10 [], none, none, [], none⟩,
  ⟨(some 23), .mv (.t 22), none, none, [], none⟩,
  ⟨(some 24), .mv (.t 3), (some (23, true)), none, [], none⟩,
  ⟨(some 25), .mv (.t 5), (some (23, true)), none, [], none⟩,
  ⟨(some 26), .bin .eql (.t 24) (.t 25), (some (23, true)), none, [], none⟩,
  ⟨(some 27), .pick (.t 23) (.t 26) (.k (.bool false)), none, none, [], none⟩,
  ⟨(some 28), .mv (.t 27), none, none, [], none⟩,
  ⟨(some 29), .mv (.t 4), (some (28, true)), none, [], none⟩,
  ⟨(some 30), .mv (.t 6), (some (28, true)), none, [], none⟩,
  ⟨(some 31), .bin .eql (.t 29) (.t 30), (some (28, true)), none, [], none⟩,
  ⟨(some 32), .pick (.t 28) (.t 31) (.k (.bool false)), none, none, [], none⟩,
  ⟨(some 33), .mv (.t 32), none, none, [], none⟩,
  ⟨(some 34), .mv (.t 3), (some (33, true)), none, [], none⟩,
  ⟨(some 35), .lens (.t 34), (some (33, true)), none, [], none⟩,
  ⟨(some 36), .bin .leq (.t 35) (.k (.int .i64 128)), (some (33, true)), none, [], none⟩,
  ⟨(some 37), .pick (.t 33) (.t 36) (.k (.bool false)), none, none, [], none⟩,
  ⟨(some 2), .mv (.t 37), none, none, [], none⟩]
def ac_law05_PageWrites_8 : AC := .reg l_law05_PageWrites_8
def ac_law05_PageWrites_9 : AC := .seq ac_law05_PageWrites_8 .ret
def ac_law05_PageWrites_10 : AC := .seq ac_law05_PageWrites_7 ac_law05_PageWrites_9
def ac_law05_PageWrites_11 : AC := .seq ac_law05_PageWrites_6 ac_law05_PageWrites_10
def ac_law05_PageWrites_12 : AC := .seq ac_law05_PageWrites_5 ac_law05_PageWrites_11
def ac_law05_PageWrites_13 : AC := .seq ac_law05_PageWrites_0 ac_law05_PageWrites_12
def ac_law05_PageWrites : AC := ac_law05_PageWrites_13
theorem comp_law05_PageWrites : compF Try.prog [] (drawR Try.prog [] Try.f3.ntmps) [] 1 Try.f3 = some (ac_law05_PageWrites, [.t 2]) := by kernel_rfl
def U_law05_PageWrites := (And.intro (And.intro (And.intro (And.intro (And.intro @ac_law05_PageWrites.eq_1 (@mR _ _ ac_law05_PageWrites_0.eq_1)) (@mR _ _ ac_law05_PageWrites_1.eq_1)) (And.intro (And.intro (@mR _ _ ac_law05_PageWrites_2.eq_1) (@mU _ _ ac_law05_PageWrites_3.eq_1)) (@mU _ _ ac_law05_PageWrites_4.eq_1))) (And.intro (And.intro (And.intro (@mU _ _ ac_law05_PageWrites_5.eq_1) (@mR _ _ ac_law05_PageWrites_6.eq_1)) (@mR _ _ ac_law05_PageWrites_7.eq_1)) (And.intro (@mR _ _ ac_law05_PageWrites_8.eq_1) (@mU _ _ ac_law05_PageWrites_9.eq_1)))) (And.intro (And.intro (And.intro (And.intro (@mU _ _ ac_law05_PageWrites_10.eq_1) (@mU _ _ ac_law05_PageWrites_11.eq_1)) (@mU _ _ ac_law05_PageWrites_12.eq_1)) (And.intro (@mU _ _ ac_law05_PageWrites_13.eq_1) @l_law05_PageWrites_0.eq_1)) (And.intro (And.intro (And.intro @l_law05_PageWrites_1.eq_1 @l_law05_PageWrites_2.eq_1) @l_law05_PageWrites_6.eq_1) (And.intro @l_law05_PageWrites_7.eq_1 @l_law05_PageWrites_8.eq_1))))

/- scoria/scorialaw05.PageApart -/
def l_law05_PageApart_0 : List AOp := [⟨(some 2), .box (.t 0), none, none, [], none⟩,
  ⟨(some 3), .box (.t 1), none, none, [], none⟩,
  ⟨(some 4), .mv (.k (.bool false)), none, none, [], none⟩]
def ac_law05_PageApart_0 : AC := .reg l_law05_PageApart_0
def l_law05_PageApart_1 : List AOp := [⟨(some 9), .faddr 4 (.t 2), none, none, [], none⟩,
  ⟨(some 10), .load none (.t 9), none, none, [], none⟩,
  ⟨(some 11), .lens (.t 10), none, none, [], none⟩,
  ⟨(some 12), .bin .gtr (.t 11) (.k (.int .i64 20000)), none, none, [], none⟩,
  ⟨(some 13), .mv (.t 12), none, none, [], none⟩,
  ⟨(some 14), .faddr 4 (.t 3), (some (13, false)), none, [], none⟩,
  ⟨(some 15), .load none (.t 14), (some (13, false)), none, [], none⟩,
  ⟨(some 16), .lens (.t 15), (some (13, false)), none, [], none⟩,
  ⟨(some 17), .bin .gtr (.t 16) (.k (.int .i64 20000)), (some (13, false)), none, [], none⟩,
  ⟨(some 18), .pick (.t 13) (.k (.bool true)) (.t 17), none, none, [], none⟩]
def ac_law05_PageApart_1 : AC := .reg l_law05_PageApart_1
def l_law05_PageApart_2 : List AOp := [⟨(some 19), .call false 10 [], none, none, [], none⟩,
  ⟨(some 4), .mv (.t 19), none, none, [], none⟩]
def ac_law05_PageApart_2 : AC := .reg l_law05_PageApart_2
def ac_law05_PageApart_3 : AC := .seq ac_law05_PageApart_2 .ret
def ac_law05_PageApart_4 : AC := .cond (.t 18) ac_law05_PageApart_3 .skip
def ac_law05_PageApart_5 : AC := .seq ac_law05_PageApart_1 ac_law05_PageApart_4
def l_law05_PageApart_6 : List AOp := [⟨(some 21), .load (some 5) (.t 2), none, none, [], none⟩,
  ⟨(some 22), .call false 11 [(.t 21)], none, none, [], none⟩,
  ⟨(some 20), .mv (.t 22), none, none, [], none⟩,
  ⟨(some 23), .ext 0 (.t 20), none, none, [], none⟩,
  ⟨(some 24), .ext 1 (.t 20), none, none, [], none⟩,
  ⟨(some 5), .mv (.t 23), none, none, [], none⟩,
  ⟨(some 6), .mv (.t 24), none, none, [], none⟩]
def ac_law05_PageApart_6 : AC := .reg l_law05_PageApart_6
def l_law05_PageApart_7 : List AOp := [⟨(some 26), .load (some 5) (.t 3), none, none, [], none⟩,
  ⟨(some 27), .call false 11 [(.t 26)], none, none, [], none⟩,
  ⟨(some 25), .mv (.t 27), none, none, [], none⟩,
  ⟨(some 28), .ext 0 (.t 25), none, none, [], none⟩,
  ⟨(some 29), .ext 1 (.t 25), none, none, [], none⟩,
  ⟨(some 7), .mv (.t 28), none, none, [], none⟩,
  ⟨(some 8), .mv (.t 29), none, none, [], none⟩]
def ac_law05_PageApart_7 : AC := .reg l_law05_PageApart_7
def l_law05_PageApart_8 : List AOp := [⟨(some 30), .mv (.t 6), none, none, [], none⟩,
  ⟨(some 31), .bin .neq (.t 30) (.k (.int .i64 0)), none, none, [], none⟩,
  ⟨(some 32), .mv (.t 31), none, none, [], none⟩,
  ⟨(some 33), .mv (.t 8), (some (32, false)), none, [], none⟩,
  ⟨(some 34), .bin .neq (.t 33) (.k (.int .i64 0)), (some (32, false)), none, [], none⟩,
  ⟨(some 35), .pick (.t 32) (.k (.bool true)) (.t 34), none, none, [], none⟩]
def ac_law05_PageApart_8 : AC := .reg l_law05_PageApart_8
def l_law05_PageApart_9 : List AOp := [⟨(some 36), .call false 10 [], none, none, [], none⟩,
  ⟨(some 4), .mv (.t 36), none, none, [], none⟩]
def ac_law05_PageApart_9 : AC := .reg l_law05_PageApart_9
def ac_law05_PageApart_10 : AC := .seq ac_law05_PageApart_9 .ret
def ac_law05_PageApart_11 : AC := .cond (.t 35) ac_law05_PageApart_10 .skip
def ac_law05_PageApart_12 : AC := .seq ac_law05_PageApart_8 ac_law05_PageApart_11
def l_law05_PageApart_13 : List AOp := [⟨(some 37), .call false 10 [], none, none, [], none⟩,
  ⟨(some 38), .mv (.t 37), none, none, [], none⟩,
  ⟨(some 39), .mv (.t 5), (some (38, true)), none, [], none⟩,
  ⟨(some 40), .mv (.t 7), (some (38, true)), none, [], none⟩,
  ⟨(some 41), .bin .eql (.t 39) (.t 40), (some (38, true)), none, [], none⟩,
  ⟨(some 42), .load (some 5) (.t 2), (some (38, true)), none, [], none⟩,
  ⟨(some 43), .load (some 5) (.t 3), (some (38, true)), none, [], none⟩,
  ⟨(some 44), .eqs false [.i, .i, .i, .i, .s] (.t 42) (.t 43), (some (38, true)), none, [], none⟩,
  ⟨(some 45), .eqb false (.t 41) (.t 44), (some (38, true)), none, [], none⟩,
  ⟨(some 46), .pick (.t 38) (.t 45) (.k (.bool false)), none, none, [], none⟩,
  ⟨(some 4), .mv (.t 46), none, none, [], none⟩]
def ac_law05_PageApart_13 : AC := .reg l_law05_PageApart_13
def ac_law05_PageApart_14 : AC := .seq ac_law05_PageApart_13 .ret
def ac_law05_PageApart_15 : AC := .seq ac_law05_PageApart_12 ac_law05_PageApart_14
def ac_law05_PageApart_16 : AC := .seq ac_law05_PageApart_7 ac_law05_PageApart_15
def ac_law05_PageApart_17 : AC := .seq ac_law05_PageApart_6 ac_law05_PageApart_16
def ac_law05_PageApart_18 : AC := .seq ac_law05_PageApart_5 ac_law05_PageApart_17
def ac_law05_PageApart_19 : AC := .seq ac_law05_PageApart_0 ac_law05_PageApart_18
def ac_law05_PageApart : AC := ac_law05_PageApart_19
theorem comp_law05_PageApart : compF Try.prog [] (drawR Try.prog [] Try.f4.ntmps) [] 2 Try.f4 = some (ac_law05_PageApart, [.t 4]) := by kernel_rfl
def U_law05_PageApart := (And.intro (And.intro (And.intro (And.intro (And.intro @ac_law05_PageApart.eq_1 (@mR _ _ ac_law05_PageApart_0.eq_1)) (And.intro (@mR _ _ ac_law05_PageApart_1.eq_1) (@mR _ _ ac_law05_PageApart_2.eq_1))) (And.intro (And.intro (@mU _ _ ac_law05_PageApart_3.eq_1) (@mU _ _ ac_law05_PageApart_4.eq_1)) (And.intro (@mU _ _ ac_law05_PageApart_5.eq_1) (@mR _ _ ac_law05_PageApart_6.eq_1)))) (And.intro (And.intro (And.intro (@mR _ _ ac_law05_PageApart_7.eq_1) (@mR _ _ ac_law05_PageApart_8.eq_1)) (And.intro (@mR _ _ ac_law05_PageApart_9.eq_1) (@mU _ _ ac_law05_PageApart_10.eq_1))) (And.intro (And.intro (@mU _ _ ac_law05_PageApart_11.eq_1) (@mU _ _ ac_law05_PageApart_12.eq_1)) (@mR _ _ ac_law05_PageApart_13.eq_1)))) (And.intro (And.intro (And.intro (And.intro (@mU _ _ ac_law05_PageApart_14.eq_1) (@mU _ _ ac_law05_PageApart_15.eq_1)) (And.intro (@mU _ _ ac_law05_PageApart_16.eq_1) (@mU _ _ ac_law05_PageApart_17.eq_1))) (And.intro (And.intro (@mU _ _ ac_law05_PageApart_18.eq_1) (@mU _ _ ac_law05_PageApart_19.eq_1)) @l_law05_PageApart_0.eq_1)) (And.intro (And.intro (And.intro @l_law05_PageApart_1.eq_1 @l_law05_PageApart_2.eq_1) (And.intro @l_law05_PageApart_6.eq_1 @l_law05_PageApart_7.eq_1)) (And.intro (And.intro @l_law05_PageApart_8.eq_1 @l_law05_PageApart_9.eq_1) @l_law05_PageApart_13.eq_1))))

/- scoria/scorialaw05.PageNewer -/
def l_law05_PageNewer_0 : List AOp := [⟨(some 3), .box (.t 0), none, none, [], none⟩,
  ⟨(some 4), .box (.t 1), none, none, [], none⟩,
  ⟨(some 6), .mv (.k (.bool false)), none, none, [], none⟩]
def ac_law05_PageNewer_0 : AC := .reg l_law05_PageNewer_0
def l_law05_PageNewer_1 : List AOp := [⟨(some 7), .faddr 4 (.t 3), none, none, [], none⟩,
  ⟨(some 8), .load none (.t 7), none, none, [], none⟩,
  ⟨(some 9), .lens (.t 8), none, none, [], none⟩,
  ⟨(some 10), .bin .gtr (.t 9) (.k (.int .i64 20000)), none, none, [], none⟩,
  ⟨(some 11), .mv (.t 10), none, none, [], none⟩,
  ⟨(some 12), .faddr 4 (.t 4), (some (11, false)), none, [], none⟩,
  ⟨(some 13), .load none (.t 12), (some (11, false)), none, [], none⟩,
  ⟨(some 14), .lens (.t 13), (some (11, false)), none, [], none⟩,
  ⟨(some 15), .bin .gtr (.t 14) (.k (.int .i64 20000)), (some (11, false)), none, [], none⟩,
  ⟨(some 16), .pick (.t 11) (.k (.bool true)) (.t 15), none, none, [], none⟩]
def ac_law05_PageNewer_1 : AC := .reg l_law05_PageNewer_1
def l_law05_PageNewer_2 : List AOp := [⟨(some 17), .call false 10 [], none, none, [], none⟩,
  ⟨(some 6), .mv (.t 17), none, none, [], none⟩]
def ac_law05_PageNewer_2 : AC := .reg l_law05_PageNewer_2
def ac_law05_PageNewer_3 : AC := .seq ac_law05_PageNewer_2 .ret
def ac_law05_PageNewer_4 : AC := .cond (.t 16) ac_law05_PageNewer_3 .skip
def ac_law05_PageNewer_5 : AC := .seq ac_law05_PageNewer_1 ac_law05_PageNewer_4
def l_law05_PageNewer_6 : List AOp := [⟨(some 18), .call false 10 [], none, none, [], none⟩,
  ⟨(some 19), .mv (.t 18), none, none, [], none⟩,
  ⟨(some 20), .load (some 5) (.t 3), (some (19, true)), none, [], none⟩,
  ⟨(some 21), .load (some 5) (.t 4), (some (19, true)), none, [], none⟩,
  ⟨(some 22), .call false 13 [(.t 20), (.t 21)], (some (19, true)), none, [], none⟩,
  ⟨(some 23), .load (some 5) (.t 3), (some (19, true)), none, [], none⟩,
  ⟨(some 24), .load (some 5) (.t 4), (some (19, true)), none, [], none⟩,
  ⟨(some 25), .call false 14 [(.t 23), (.t 24)], (some (19, true)), none, [], none⟩,
  ⟨(some 26), .eqb false (.t 22) (.t 25), (some (19, true)), none, [], none⟩,
  ⟨(some 27), .pick (.t 19) (.t 26) (.k (.bool false)), none, none, [], none⟩,
  ⟨(some 28), .mv (.t 27), none, none, [], none⟩,
  ⟨(some 29), .mv (.t 2), (some (28, true)), none, [], none⟩,
  ⟨(some 30), .call false 15 [(.t 29)], (some (28, true)), none, [], none⟩,
  ⟨(some 31), .mv (.t 2), (some (28, true)), none, [], none⟩,
  ⟨(some 32), .call false 16 [(.t 31)], (some (28, true)), none, [], none⟩,
  ⟨(some 33), .bin .eql (.t 30) (.t 32), (some (28, true)), none, [], none⟩,
  ⟨(some 34), .pick (.t 28) (.t 33) (.k (.bool false)), none, none, [], none⟩,
  ⟨(some 6), .mv (.t 34), none, none, [], none⟩]
def ac_law05_PageNewer_6 : AC := .dreg 0 l_law05_PageNewer_6
def ac_law05_PageNewer_7 : AC := .seq ac_law05_PageNewer_6 .ret
def ac_law05_PageNewer_8 : AC := .seq ac_law05_PageNewer_5 ac_law05_PageNewer_7
def ac_law05_PageNewer_9 : AC := .seq ac_law05_PageNewer_0 ac_law05_PageNewer_8
def ac_law05_PageNewer : AC := ac_law05_PageNewer_9
theorem comp_law05_PageNewer : compF Try.prog [] (drawR Try.prog [] Try.f5.ntmps) [] 3 Try.f5 = some (ac_law05_PageNewer, [.t 6]) := by kernel_rfl
def U_law05_PageNewer := (And.intro (And.intro (And.intro (And.intro @ac_law05_PageNewer.eq_1 (@mR _ _ ac_law05_PageNewer_0.eq_1)) (And.intro (@mR _ _ ac_law05_PageNewer_1.eq_1) (@mR _ _ ac_law05_PageNewer_2.eq_1))) (And.intro (And.intro (@mU _ _ ac_law05_PageNewer_3.eq_1) (@mU _ _ ac_law05_PageNewer_4.eq_1)) (And.intro (@mU _ _ ac_law05_PageNewer_5.eq_1) (@mD _ _ _ ac_law05_PageNewer_6.eq_1)))) (And.intro (And.intro (And.intro (@mU _ _ ac_law05_PageNewer_7.eq_1) (@mU _ _ ac_law05_PageNewer_8.eq_1)) (And.intro (@mU _ _ ac_law05_PageNewer_9.eq_1) @l_law05_PageNewer_0.eq_1)) (And.intro (And.intro @l_law05_PageNewer_1.eq_1 @l_law05_PageNewer_2.eq_1) @l_law05_PageNewer_6.eq_1)))

/- scoria/scorialaw05.PageOrder -/
def l_law05_PageOrder_0 : List AOp := [⟨(some 3), .box (.t 0), none, none, [], none⟩,
  ⟨(some 4), .box (.t 1), none, none, [], none⟩,
  ⟨(some 5), .box (.t 2), none, none, [], none⟩,
  ⟨(some 6), .mv (.k (.bool false)), none, none, [], none⟩]
def ac_law05_PageOrder_0 : AC := .reg l_law05_PageOrder_0
def l_law05_PageOrder_1 : List AOp := [⟨(some 7), .faddr 4 (.t 3), none, none, [], none⟩,
  ⟨(some 8), .load none (.t 7), none, none, [], none⟩,
  ⟨(some 9), .lens (.t 8), none, none, [], none⟩,
  ⟨(some 10), .bin .gtr (.t 9) (.k (.int .i64 20000)), none, none, [], none⟩,
  ⟨(some 11), .mv (.t 10), none, none, [], none⟩,
  ⟨(some 12), .faddr 4 (.t 4), (some (11, false)), none, [], none⟩,
  ⟨(some 13), .load none (.t 12), (some (11, false)), none, [], none⟩,
  ⟨(some 14), .lens (.t 13), (some (11, false)), none, [], none⟩,
  ⟨(some 15), .bin .gtr (.t 14) (.k (.int .i64 20000)), (some (11, false)), none, [], none⟩,
  ⟨(some 16), .pick (.t 11) (.k (.bool true)) (.t 15), none, none, [], none⟩,
  ⟨(some 17), .mv (.t 16), none, none, [], none⟩,
  ⟨(some 18), .faddr 4 (.t 5), (some (17, false)), none, [], none⟩,
  ⟨(some 19), .load none (.t 18), (some (17, false)), none, [], none⟩,
  ⟨(some 20), .lens (.t 19), (some (17, false)), none, [], none⟩,
  ⟨(some 21), .bin .gtr (.t 20) (.k (.int .i64 20000)), (some (17, false)), none, [], none⟩,
  ⟨(some 22), .pick (.t 17) (.k (.bool true)) (.t 21), none, none, [], none⟩]
def ac_law05_PageOrder_1 : AC := .reg l_law05_PageOrder_1
def l_law05_PageOrder_2 : List AOp := [⟨(some 23), .call false 10 [], none, none, [], none⟩,
  ⟨(some 6), .mv (.t 23), none, none, [], none⟩]
def ac_law05_PageOrder_2 : AC := .reg l_law05_PageOrder_2
def ac_law05_PageOrder_3 : AC := .seq ac_law05_PageOrder_2 .ret
def ac_law05_PageOrder_4 : AC := .cond (.t 22) ac_law05_PageOrder_3 .skip
def ac_law05_PageOrder_5 : AC := .seq ac_law05_PageOrder_1 ac_law05_PageOrder_4
def l_law05_PageOrder_6 : List AOp := [⟨(some 24), .load (some 5) (.t 3), none, none, [], none⟩,
  ⟨(some 25), .load (some 5) (.t 3), none, none, [], none⟩,
  ⟨(some 26), .call false 13 [(.t 24), (.t 25)], none, none, [], none⟩,
  ⟨(some 27), .mv (.t 26), none, none, [], none⟩,
  ⟨(some 28), .load (some 5) (.t 3), (some (27, false)), none, [], none⟩,
  ⟨(some 29), .load (some 5) (.t 4), (some (27, false)), none, [], none⟩,
  ⟨(some 30), .call false 13 [(.t 28), (.t 29)], (some (27, false)), none, [], none⟩,
  ⟨(some 31), .mv (.t 30), (some (27, false)), none, [], none⟩,
  ⟨(some 32), .load (some 5) (.t 4), (some (31, true)), none, [], none⟩,
  ⟨(some 33), .load (some 5) (.t 3), (some (31, true)), none, [], none⟩,
  ⟨(some 34), .call false 13 [(.t 32), (.t 33)], (some (31, true)), none, [], none⟩,
  ⟨(some 35), .pick (.t 31) (.t 34) (.k (.bool false)), (some (27, false)), none, [], none⟩,
  ⟨(some 36), .pick (.t 27) (.k (.bool true)) (.t 35), none, none, [], none⟩]
def ac_law05_PageOrder_6 : AC := .reg l_law05_PageOrder_6
def l_law05_PageOrder_7 : List AOp := [⟨(some 6), .mv (.k (.bool false)), none, none, [], none⟩]
def ac_law05_PageOrder_7 : AC := .reg l_law05_PageOrder_7
def ac_law05_PageOrder_8 : AC := .seq ac_law05_PageOrder_7 .ret
def ac_law05_PageOrder_9 : AC := .cond (.t 36) ac_law05_PageOrder_8 .skip
def ac_law05_PageOrder_10 : AC := .seq ac_law05_PageOrder_6 ac_law05_PageOrder_9
def l_law05_PageOrder_11 : List AOp := [⟨(some 37), .call false 10 [], none, none, [], none⟩,
  ⟨(some 38), .mv (.t 37), none, none, [], none⟩,
  ⟨(some 39), .load (some 5) (.t 3), (some (38, true)), none, [], none⟩,
  ⟨(some 40), .load (some 5) (.t 4), (some (38, true)), none, [], none⟩,
  ⟨(some 41), .call false 13 [(.t 39), (.t 40)], (some (38, true)), none, [], none⟩,
  ⟨(some 42), .un .not (.t 41), (some (38, true)), none, [], none⟩,
  ⟨(some 43), .mv (.t 42), (some (38, true)), none, [], none⟩,
  ⟨(some 44), .load (some 5) (.t 4), (some (43, false)), none, [], none⟩,
  ⟨(some 45), .load (some 5) (.t 5), (some (43, false)), none, [], none⟩,
  ⟨(some 46), .call false 13 [(.t 44), (.t 45)], (some (43, false)), none, [], none⟩,
  ⟨(some 47), .un .not (.t 46), (some (43, false)), none, [], none⟩,
  ⟨(some 48), .pick (.t 43) (.k (.bool true)) (.t 47), (some (38, true)), none, [], none⟩,
  ⟨(some 49), .mv (.t 48), (some (38, true)), none, [], none⟩,
  ⟨(some 50), .load (some 5) (.t 3), (some (49, false)), none, [], none⟩,
  ⟨(some 51), .load (some 5) (.t 5), (some (49, false)), none, [], none⟩,
  ⟨(some 52), .call false 13 [(.t 50), (.t 51)], (some (49, false)), none, [], none⟩,
  ⟨(some 53), .pick (.t 49) (.k (.bool true)) (.t 52), (some (38, true)), none, [], none⟩,
  ⟨(some 54), .pick (.t 38) (.t 53) (.k (.bool false)), none, none, [], none⟩,
  ⟨(some 6), .mv (.t 54), none, none, [], none⟩]
def ac_law05_PageOrder_11 : AC := .reg l_law05_PageOrder_11
def ac_law05_PageOrder_12 : AC := .seq ac_law05_PageOrder_11 .ret
def ac_law05_PageOrder_13 : AC := .seq ac_law05_PageOrder_10 ac_law05_PageOrder_12
def ac_law05_PageOrder_14 : AC := .seq ac_law05_PageOrder_5 ac_law05_PageOrder_13
def ac_law05_PageOrder_15 : AC := .seq ac_law05_PageOrder_0 ac_law05_PageOrder_14
def ac_law05_PageOrder : AC := ac_law05_PageOrder_15
theorem comp_law05_PageOrder : compF Try.prog [] (drawR Try.prog [] Try.f6.ntmps) [] 3 Try.f6 = some (ac_law05_PageOrder, [.t 6]) := by kernel_rfl
def U_law05_PageOrder := (And.intro (And.intro (And.intro (And.intro (And.intro @ac_law05_PageOrder.eq_1 (@mR _ _ ac_law05_PageOrder_0.eq_1)) (@mR _ _ ac_law05_PageOrder_1.eq_1)) (And.intro (And.intro (@mR _ _ ac_law05_PageOrder_2.eq_1) (@mU _ _ ac_law05_PageOrder_3.eq_1)) (@mU _ _ ac_law05_PageOrder_4.eq_1))) (And.intro (And.intro (And.intro (@mU _ _ ac_law05_PageOrder_5.eq_1) (@mR _ _ ac_law05_PageOrder_6.eq_1)) (@mR _ _ ac_law05_PageOrder_7.eq_1)) (And.intro (And.intro (@mU _ _ ac_law05_PageOrder_8.eq_1) (@mU _ _ ac_law05_PageOrder_9.eq_1)) (@mU _ _ ac_law05_PageOrder_10.eq_1)))) (And.intro (And.intro (And.intro (And.intro (@mR _ _ ac_law05_PageOrder_11.eq_1) (@mU _ _ ac_law05_PageOrder_12.eq_1)) (@mU _ _ ac_law05_PageOrder_13.eq_1)) (And.intro (And.intro (@mU _ _ ac_law05_PageOrder_14.eq_1) (@mU _ _ ac_law05_PageOrder_15.eq_1)) @l_law05_PageOrder_0.eq_1)) (And.intro (And.intro (And.intro @l_law05_PageOrder_1.eq_1 @l_law05_PageOrder_2.eq_1) @l_law05_PageOrder_6.eq_1) (And.intro @l_law05_PageOrder_7.eq_1 @l_law05_PageOrder_11.eq_1))))

/- scoria/scorialaw05.PageReads -/
def l_law05_PageReads_0 : List AOp := [⟨(some 2), .mv (.k (.bool false)), none, none, [], none⟩]
def ac_law05_PageReads_0 : AC := .reg l_law05_PageReads_0
def l_law05_PageReads_1 : List AOp := [⟨(some 7), .mv (.t 0), none, none, [], none⟩,
  ⟨(some 8), .lens (.t 7), none, none, [], none⟩,
  ⟨(some 9), .bin .gtr (.t 8) (.k (.int .i64 20000)), none, none, [], none⟩]
def ac_law05_PageReads_1 : AC := .reg l_law05_PageReads_1
def l_law05_PageReads_2 : List AOp := [⟨(some 10), .call false 10 [], none, none, [], none⟩,
  ⟨(some 2), .mv (.t 10), none, none, [], none⟩]
def ac_law05_PageReads_2 : AC := .reg l_law05_PageReads_2
def ac_law05_PageReads_3 : AC := .seq ac_law05_PageReads_2 .ret
def ac_law05_PageReads_4 : AC := .cond (.t 9) ac_law05_PageReads_3 .skip
def ac_law05_PageReads_5 : AC := .seq ac_law05_PageReads_1 ac_law05_PageReads_4
def l_law05_PageReads_6 : List AOp := [⟨(some 12), .mv (.t 0), none, none, [], none⟩,
  ⟨(some 13), .call false 17 [(.t 12)], none, none, [], none⟩,
  ⟨(some 11), .mv (.t 13), none, none, [], none⟩,
  ⟨(some 14), .ext 0 (.t 11), none, none, [], none⟩,
  ⟨(some 15), .ext 1 (.t 11), none, none, [], none⟩,
  ⟨(some 3), .alloc [(.int .i64 0), (.int .i64 0), (.int .i64 0), (.int .i64 0), (.str [])], none, none, [], none⟩,
  ⟨none, .store 5 (.t 3) (.t 14), none, none, [], none⟩,
  ⟨(some 4), .mv (.t 15), none, none, [], none⟩]
def ac_law05_PageReads_6 : AC := .reg l_law05_PageReads_6
def l_law05_PageReads_7 : List AOp := [⟨(some 17), .mv (.t 0), none, none, [], none⟩,
  ⟨(some 18), .call false 18 [(.t 17)], none, none, [], none⟩,
  ⟨(some 16), .mv (.t 18), none, none, [], none⟩,
  ⟨(some 19), .ext 0 (.t 16), none, none, [], none⟩,
  ⟨(some 20), .ext 1 (.t 16), none, none, [], none⟩,
  ⟨(some 5), .alloc [(.int .i64 0), (.int .i64 0), (.int .i64 0), (.int .i64 0), (.str [])], none, none, [], none⟩,
  ⟨none, .store 5 (.t 5) (.t 19), none, none, [], none⟩,
  ⟨(some 6), .mv (.t 20), none, none, [], none⟩]
def ac_law05_PageReads_7 : AC := .reg l_law05_PageReads_7
def l_law05_PageReads_8 : List AOp := [⟨(some 21), .call false 10 [], none, none, [], none⟩,
  ⟨(some 22), .mv (.t 21), none, none, [], none⟩,
  ⟨(some 23), .load (some 5) (.t 3), (some (22, true)), none, [], none⟩,
  ⟨(some 24), .load (some 5) (.t 5), (some (22, true)), none, [], none⟩,
  ⟨(some 25), .eqs false [.i, .i, .i, .i, .s] (.t 23) (.t 24), (some (22, true)), none, [], none⟩,
  ⟨(some 26), .pick (.t 22) (.t 25) (.k (.bool false)), none, none, [], none⟩,
  ⟨(some 27), .mv (.t 26), none, none, [], none⟩,
  ⟨(some 28), .mv (.t 4), (some (27, true)), none, [], none⟩,
  ⟨(some 29), .mv (.t 6), (some (27, true)), none, [], none⟩,
  ⟨(some 30), .bin .eql (.t 28) (.t 29), (some (27, true)), none, [], none⟩,
  ⟨(some 31), .pick (.t 27) (.t 30) (.k (.bool false)), none, none, [], none⟩,
  ⟨(some 2), .mv (.t 31), none, none, [], none⟩]
def ac_law05_PageReads_8 : AC := .reg l_law05_PageReads_8
def ac_law05_PageReads_9 : AC := .seq ac_law05_PageReads_8 .ret
def ac_law05_PageReads_10 : AC := .seq ac_law05_PageReads_7 ac_law05_PageReads_9
def ac_law05_PageReads_11 : AC := .seq ac_law05_PageReads_6 ac_law05_PageReads_10
def ac_law05_PageReads_12 : AC := .seq ac_law05_PageReads_5 ac_law05_PageReads_11
def ac_law05_PageReads_13 : AC := .seq ac_law05_PageReads_0 ac_law05_PageReads_12
def ac_law05_PageReads : AC := ac_law05_PageReads_13
theorem comp_law05_PageReads : compF Try.prog [] (drawR Try.prog [] Try.f7.ntmps) [] 1 Try.f7 = some (ac_law05_PageReads, [.t 2]) := by kernel_rfl
def U_law05_PageReads := (And.intro (And.intro (And.intro (And.intro (And.intro @ac_law05_PageReads.eq_1 (@mR _ _ ac_law05_PageReads_0.eq_1)) (@mR _ _ ac_law05_PageReads_1.eq_1)) (And.intro (And.intro (@mR _ _ ac_law05_PageReads_2.eq_1) (@mU _ _ ac_law05_PageReads_3.eq_1)) (@mU _ _ ac_law05_PageReads_4.eq_1))) (And.intro (And.intro (And.intro (@mU _ _ ac_law05_PageReads_5.eq_1) (@mR _ _ ac_law05_PageReads_6.eq_1)) (@mR _ _ ac_law05_PageReads_7.eq_1)) (And.intro (@mR _ _ ac_law05_PageReads_8.eq_1) (@mU _ _ ac_law05_PageReads_9.eq_1)))) (And.intro (And.intro (And.intro (And.intro (@mU _ _ ac_law05_PageReads_10.eq_1) (@mU _ _ ac_law05_PageReads_11.eq_1)) (@mU _ _ ac_law05_PageReads_12.eq_1)) (And.intro (@mU _ _ ac_law05_PageReads_13.eq_1) @l_law05_PageReads_0.eq_1)) (And.intro (And.intro (And.intro @l_law05_PageReads_1.eq_1 @l_law05_PageReads_2.eq_1) @l_law05_PageReads_6.eq_1) (And.intro @l_law05_PageReads_7.eq_1 @l_law05_PageReads_8.eq_1))))

/- scoria/scorialaw05.PageBack -/
def l_law05_PageBack_0 : List AOp := [⟨(some 2), .box (.t 0), none, none, [], none⟩,
  ⟨(some 4), .mv (.k (.bool false)), none, none, [], none⟩]
def ac_law05_PageBack_0 : AC := .reg l_law05_PageBack_0
def l_law05_PageBack_1 : List AOp := [⟨(some 11), .faddr 4 (.t 2), none, none, [], none⟩,
  ⟨(some 12), .load none (.t 11), none, none, [], none⟩,
  ⟨(some 13), .lens (.t 12), none, none, [], none⟩,
  ⟨(some 14), .bin .gtr (.t 13) (.k (.int .i64 20000)), none, none, [], none⟩,
  ⟨(some 15), .mv (.t 14), none, none, [], none⟩,
  ⟨(some 16), .mv (.t 1), (some (15, false)), none, [], none⟩,
  ⟨(some 17), .lens (.t 16), (some (15, false)), none, [], none⟩,
  ⟨(some 18), .bin .gtr (.t 17) (.k (.int .i64 20000)), (some (15, false)), none, [], none⟩,
  ⟨(some 19), .pick (.t 15) (.k (.bool true)) (.t 18), none, none, [], none⟩]
def ac_law05_PageBack_1 : AC := .reg l_law05_PageBack_1
def l_law05_PageBack_2 : List AOp := [⟨(some 20), .call false 10 [], none, none, [], none⟩,
  ⟨(some 4), .mv (.t 20), none, none, [], none⟩]
def ac_law05_PageBack_2 : AC := .reg l_law05_PageBack_2
def ac_law05_PageBack_3 : AC := .seq ac_law05_PageBack_2 .ret
def ac_law05_PageBack_4 : AC := .cond (.t 19) ac_law05_PageBack_3 .skip
def ac_law05_PageBack_5 : AC := .seq ac_law05_PageBack_1 ac_law05_PageBack_4
def l_law05_PageBack_6 : List AOp := [⟨(some 22), .load (some 5) (.t 2), none, none, [], none⟩,
  ⟨(some 23), .call false 11 [(.t 22)], none, none, [], none⟩,
  ⟨(some 21), .mv (.t 23), none, none, [], none⟩,
  ⟨(some 24), .ext 0 (.t 21), none, none, [], none⟩,
  ⟨(some 25), .ext 1 (.t 21), none, none, [], none⟩,
  ⟨(some 5), .mv (.t 24), none, none, [], none⟩,
  ⟨(some 6), .mv (.t 25), none, none, [], none⟩]
def ac_law05_PageBack_6 : AC := .reg l_law05_PageBack_6
def l_law05_PageBack_7 : List AOp := [⟨(some 26), .mv (.t 6), none, none, [], none⟩,
  ⟨(some 27), .bin .eql (.t 26) (.k (.int .i64 0)), none, none, [], none⟩]
def ac_law05_PageBack_7 : AC := .reg l_law05_PageBack_7
def l_law05_PageBack_8 : List AOp := [⟨(some 29), .mv (.t 5), none, none, [], none⟩,
  ⟨(some 30), .call false 17 [(.t 29)], none, none, [], none⟩,
  ⟨(some 28), .mv (.t 30), none, none, [], none⟩,
  ⟨(some 31), .ext 0 (.t 28), none, none, [], none⟩,
  ⟨(some 32), .ext 1 (.t 28), none, none, [], none⟩,
  ⟨(some 7), .alloc [(.int .i64 0), (.int .i64 0), (.int .i64 0), (.int .i64 0), (.str [])], none, none, [], none⟩,
  ⟨none, .store 5 (.t 7) (.t 31), none, none, [], none⟩,
  ⟨(some 8), .mv (.t 32), none, none, [], none⟩]
def ac_law05_PageBack_8 : AC := .reg l_law05_PageBack_8
def l_law05_PageBack_9 : List AOp := [⟨(some 33), .mv (.t 8), none, none, [], none⟩,
  ⟨(some 34), .bin .neq (.t 33) (.k (.int .i64 0)), none, none, [], none⟩,
  ⟨(some 35), .mv (.t 34), none, none, [], none⟩,
  ⟨(some 36), .load (some 5) (.t 7), (some (35, false)), none, [], none⟩,
  ⟨(some 37), .load (some 5) (.t 2), (some (35, false)), none, [], none⟩,
  ⟨(some 38), .eqs true [.i, .i, .i, .i, .s] (.t 36) (.t 37), (some (35, false)), none, [], none⟩,
  ⟨(some 39), .pick (.t 35) (.k (.bool true)) (.t 38), none, none, [], none⟩]
def ac_law05_PageBack_9 : AC := .reg l_law05_PageBack_9
def l_law05_PageBack_10 : List AOp := [⟨(some 4), .mv (.k (.bool false)), none, none, [], none⟩]
def ac_law05_PageBack_10 : AC := .reg l_law05_PageBack_10
def ac_law05_PageBack_11 : AC := .seq ac_law05_PageBack_10 .ret
def ac_law05_PageBack_12 : AC := .cond (.t 39) ac_law05_PageBack_11 .skip
def ac_law05_PageBack_13 : AC := .seq ac_law05_PageBack_9 ac_law05_PageBack_12
def ac_law05_PageBack_14 : AC := .seq ac_law05_PageBack_8 ac_law05_PageBack_13
def ac_law05_PageBack_15 : AC := .cond (.t 27) ac_law05_PageBack_14 .skip
def ac_law05_PageBack_16 : AC := .seq ac_law05_PageBack_7 ac_law05_PageBack_15
def l_law05_PageBack_17 : List AOp := [⟨(some 41), .mv (.t 1), none, none, [], none⟩,
  ⟨(some 42), .call false 17 [(.t 41)], none, none, [], none⟩,
  ⟨(some 40), .mv (.t 42), none, none, [], none⟩,
  ⟨(some 43), .ext 0 (.t 40), none, none, [], none⟩,
  ⟨(some 44), .ext 1 (.t 40), none, none, [], none⟩,
  ⟨(some 9), .alloc [(.int .i64 0), (.int .i64 0), (.int .i64 0), (.int .i64 0), (.str [])], none, none, [], none⟩,
  ⟨none, .store 5 (.t 9) (.t 43), none, none, [], none⟩,
  ⟨(some 10), .mv (.t 44), none, none, [], none⟩]
def ac_law05_PageBack_17 : AC := .reg l_law05_PageBack_17
def l_law05_PageBack_18 : List AOp := [⟨(some 45), .mv (.t 10), none, none, [], none⟩,
  ⟨(some 46), .bin .neq (.t 45) (.k (.int .i64 0)), none, none, [], none⟩]
def ac_law05_PageBack_18 : AC := .reg l_law05_PageBack_18
def l_law05_PageBack_19 : List AOp := [⟨(some 47), .call false 10 [], none, none, [], none⟩,
  ⟨(some 48), .mv (.t 47), none, none, [], none⟩,
  ⟨(some 49), .load (some 5) (.t 9), (some (48, true)), none, [], none⟩,
  ⟨(some 50), .build [(.int .i64 0), (.int .i64 0), (.int .i64 0), (.int .i64 0), (.str [])] [], (some (48, true)), none, [], none⟩,
  ⟨(some 51), .eqs false [.i, .i, .i, .i, .s] (.t 49) (.t 50), (some (48, true)), none, [], none⟩,
  ⟨(some 52), .pick (.t 48) (.t 51) (.k (.bool false)), none, none, [], none⟩,
  ⟨(some 4), .mv (.t 52), none, none, [], none⟩]
def ac_law05_PageBack_19 : AC := .reg l_law05_PageBack_19
def ac_law05_PageBack_20 : AC := .seq ac_law05_PageBack_19 .ret
def ac_law05_PageBack_21 : AC := .cond (.t 46) ac_law05_PageBack_20 .skip
def ac_law05_PageBack_22 : AC := .seq ac_law05_PageBack_18 ac_law05_PageBack_21
def l_law05_PageBack_23 : List AOp := [⟨(some 54), .load (some 5) (.t 9), none, none, [], none⟩,
  ⟨(some 55), .call false 11 [(.t 54)], none, none, [], none⟩,
  ⟨(some 53), .mv (.t 55), none, none, [], none⟩,
  ⟨(some 56), .ext 0 (.t 53), none, none, [], none⟩,
  ⟨(some 57), .ext 1 (.t 53), none, none, [], none⟩,
  ⟨(some 5), .mv (.t 56), none, none, [], none⟩,
  ⟨(some 6), .mv (.t 57), none, none, [], none⟩]
def ac_law05_PageBack_23 : AC := .reg l_law05_PageBack_23
def l_law05_PageBack_24 : List AOp := [⟨(some 58), .call false 10 [], none, none, [], none⟩,
  ⟨(some 59), .mv (.t 58), none, none, [], none⟩,
  ⟨(some 60), .mv (.t 6), (some (59, true)), none, [], none⟩,
  ⟨(some 61), .bin .eql (.t 60) (.k (.int .i64 0)), (some (59, true)), none, [], none⟩,
  ⟨(some 62), .pick (.t 59) (.t 61) (.k (.bool false)), none, none, [], none⟩,
  ⟨(some 63), .mv (.t 62), none, none, [], none⟩,
  ⟨(some 64), .mv (.t 5), (some (63, true)), none, [], none⟩,
  ⟨(some 65), .mv (.t 1), (some (63, true)), none, [], none⟩,
  ⟨(some 66), .bin .eql (.t 64) (.t 65), (some (63, true)), none, [], none⟩,
  ⟨(some 67), .pick (.t 63) (.t 66) (.k (.bool false)), none, none, [], none⟩,
  ⟨(some 4), .mv (.t 67), none, none, [], none⟩]
def ac_law05_PageBack_24 : AC := .reg l_law05_PageBack_24
def ac_law05_PageBack_25 : AC := .seq ac_law05_PageBack_24 .ret
def ac_law05_PageBack_26 : AC := .seq ac_law05_PageBack_23 ac_law05_PageBack_25
def ac_law05_PageBack_27 : AC := .seq ac_law05_PageBack_22 ac_law05_PageBack_26
def ac_law05_PageBack_28 : AC := .seq ac_law05_PageBack_17 ac_law05_PageBack_27
def ac_law05_PageBack_29 : AC := .seq ac_law05_PageBack_16 ac_law05_PageBack_28
def ac_law05_PageBack_30 : AC := .seq ac_law05_PageBack_6 ac_law05_PageBack_29
def ac_law05_PageBack_31 : AC := .seq ac_law05_PageBack_5 ac_law05_PageBack_30
def ac_law05_PageBack_32 : AC := .seq ac_law05_PageBack_0 ac_law05_PageBack_31
def ac_law05_PageBack : AC := ac_law05_PageBack_32
theorem comp_law05_PageBack : compF Try.prog [] (drawR Try.prog [] Try.f8.ntmps) [] 2 Try.f8 = some (ac_law05_PageBack, [.t 4]) := by kernel_rfl
def U_law05_PageBack := (And.intro (And.intro (And.intro (And.intro (And.intro (And.intro @ac_law05_PageBack.eq_1 (@mR _ _ ac_law05_PageBack_0.eq_1)) (@mR _ _ ac_law05_PageBack_1.eq_1)) (And.intro (And.intro (@mR _ _ ac_law05_PageBack_2.eq_1) (@mU _ _ ac_law05_PageBack_3.eq_1)) (@mU _ _ ac_law05_PageBack_4.eq_1))) (And.intro (And.intro (And.intro (@mU _ _ ac_law05_PageBack_5.eq_1) (@mR _ _ ac_law05_PageBack_6.eq_1)) (@mR _ _ ac_law05_PageBack_7.eq_1)) (And.intro (And.intro (@mR _ _ ac_law05_PageBack_8.eq_1) (@mR _ _ ac_law05_PageBack_9.eq_1)) (@mR _ _ ac_law05_PageBack_10.eq_1)))) (And.intro (And.intro (And.intro (And.intro (@mU _ _ ac_law05_PageBack_11.eq_1) (@mU _ _ ac_law05_PageBack_12.eq_1)) (@mU _ _ ac_law05_PageBack_13.eq_1)) (And.intro (And.intro (@mU _ _ ac_law05_PageBack_14.eq_1) (@mU _ _ ac_law05_PageBack_15.eq_1)) (@mU _ _ ac_law05_PageBack_16.eq_1))) (And.intro (And.intro (And.intro (@mR _ _ ac_law05_PageBack_17.eq_1) (@mR _ _ ac_law05_PageBack_18.eq_1)) (@mR _ _ ac_law05_PageBack_19.eq_1)) (And.intro (And.intro (@mU _ _ ac_law05_PageBack_20.eq_1) (@mU _ _ ac_law05_PageBack_21.eq_1)) (@mU _ _ ac_law05_PageBack_22.eq_1))))) (And.intro (And.intro (And.intro (And.intro (And.intro (@mR _ _ ac_law05_PageBack_23.eq_1) (@mR _ _ ac_law05_PageBack_24.eq_1)) (@mU _ _ ac_law05_PageBack_25.eq_1)) (And.intro (And.intro (@mU _ _ ac_law05_PageBack_26.eq_1) (@mU _ _ ac_law05_PageBack_27.eq_1)) (@mU _ _ ac_law05_PageBack_28.eq_1))) (And.intro (And.intro (And.intro (@mU _ _ ac_law05_PageBack_29.eq_1) (@mU _ _ ac_law05_PageBack_30.eq_1)) (@mU _ _ ac_law05_PageBack_31.eq_1)) (And.intro (And.intro (@mU _ _ ac_law05_PageBack_32.eq_1) @l_law05_PageBack_0.eq_1) @l_law05_PageBack_1.eq_1))) (And.intro (And.intro (And.intro (And.intro @l_law05_PageBack_2.eq_1 @l_law05_PageBack_6.eq_1) @l_law05_PageBack_7.eq_1) (And.intro (And.intro @l_law05_PageBack_8.eq_1 @l_law05_PageBack_9.eq_1) @l_law05_PageBack_10.eq_1)) (And.intro (And.intro (And.intro @l_law05_PageBack_17.eq_1 @l_law05_PageBack_18.eq_1) @l_law05_PageBack_19.eq_1) (And.intro @l_law05_PageBack_23.eq_1 @l_law05_PageBack_24.eq_1)))))

/- scoria/scorialaw05.PageTurned -/
def l_law05_PageTurned_0 : List AOp := [⟨(some 3), .box (.t 0), none, none, [], none⟩,
  ⟨(some 6), .mv (.k (.bool false)), none, none, [], none⟩]
def ac_law05_PageTurned_0 : AC := .reg l_law05_PageTurned_0
def l_law05_PageTurned_1 : List AOp := [⟨(some 16), .load (some 5) (.t 3), none, none, [], none⟩,
  ⟨(some 17), .call false 11 [(.t 16)], none, none, [], none⟩,
  ⟨(some 15), .mv (.t 17), none, none, [], none⟩,
  ⟨(some 18), .ext 0 (.t 15), none, none, [], none⟩,
  ⟨(some 19), .ext 1 (.t 15), none, none, [], none⟩,
  ⟨(some 7), .mv (.t 18), none, none, [], none⟩,
  ⟨(some 8), .mv (.t 19), none, none, [], none⟩]
def ac_law05_PageTurned_1 : AC := .reg l_law05_PageTurned_1
def l_law05_PageTurned_2 : List AOp := [⟨(some 20), .mv (.t 8), none, none, [], none⟩,
  ⟨(some 21), .bin .neq (.t 20) (.k (.int .i64 0)), none, none, [], none⟩]
def ac_law05_PageTurned_2 : AC := .reg l_law05_PageTurned_2
def l_law05_PageTurned_3 : List AOp := [⟨(some 22), .call false 10 [], none, none, [], none⟩,
  ⟨(some 23), .mv (.t 22), none, none, [], none⟩,
  ⟨(some 24), .mv (.t 7), (some (23, true)), none, [], none⟩,
  ⟨(some 25), .bin .eql (.t 24) (.k (.str [])), (some (23, true)), none, [], none⟩,
  ⟨(some 26), .pick (.t 23) (.t 25) (.k (.bool false)), none, none, [], none⟩,
  ⟨(some 6), .mv (.t 26), none, none, [], none⟩]
def ac_law05_PageTurned_3 : AC := .reg l_law05_PageTurned_3
def ac_law05_PageTurned_4 : AC := .seq ac_law05_PageTurned_3 .ret
def ac_law05_PageTurned_5 : AC := .cond (.t 21) ac_law05_PageTurned_4 .skip
def ac_law05_PageTurned_6 : AC := .seq ac_law05_PageTurned_2 ac_law05_PageTurned_5
def l_law05_PageTurned_7 : List AOp := [⟨(some 27), .mv (.t 7), none, none, [], none⟩,
  ⟨(some 28), .s2b true (.t 27), none, none, [], none⟩,
  ⟨(some 9), .mv (.t 28), none, none, [], none⟩]
def ac_law05_PageTurned_7 : AC := .reg l_law05_PageTurned_7
def l_law05_PageTurned_8 : List AOp := [⟨(some 29), .mv (.t 9), none, none, [], none⟩,
  ⟨(some 30), .len (.t 29), none, none, [], none⟩,
  ⟨(some 31), .bin .mul (.k (.int .i64 8)) (.t 30), none, none, [], none⟩,
  ⟨(some 10), .mv (.t 31), none, none, [], none⟩]
def ac_law05_PageTurned_8 : AC := .reg l_law05_PageTurned_8
def l_law05_PageTurned_9 : List AOp := [⟨(some 32), .mv (.t 10), none, none, [], none⟩,
  ⟨(some 33), .bin .eql (.t 32) (.k (.int .i64 0)), none, none, [], none⟩]
def ac_law05_PageTurned_9 : AC := .reg l_law05_PageTurned_9
def l_law05_PageTurned_10 : List AOp := [⟨(some 6), .mv (.k (.bool false)), none, none, [], none⟩]
def ac_law05_PageTurned_10 : AC := .reg l_law05_PageTurned_10
def ac_law05_PageTurned_11 : AC := .seq ac_law05_PageTurned_10 .ret
def ac_law05_PageTurned_12 : AC := .cond (.t 33) ac_law05_PageTurned_11 .skip
def ac_law05_PageTurned_13 : AC := .seq ac_law05_PageTurned_9 ac_law05_PageTurned_12
def l_law05_PageTurned_14 : List AOp := [⟨(some 34), .mv (.t 1), none, none, [], none⟩,
  ⟨(some 35), .mv (.t 10), none, none, [], none⟩,
  ⟨(some 36), .bin .rem (.t 34) (.t 35), none, none, [], none⟩,
  ⟨(some 37), .mv (.t 10), none, none, [], none⟩,
  ⟨(some 38), .bin .add (.t 36) (.t 37), none, none, [], none⟩,
  ⟨(some 39), .mv (.t 10), none, none, [], none⟩,
  ⟨(some 40), .bin .rem (.t 38) (.t 39), none, none, [], none⟩,
  ⟨(some 11), .mv (.t 40), none, none, [], none⟩]
def ac_law05_PageTurned_14 : AC := .reg l_law05_PageTurned_14
def l_law05_PageTurned_15 : List AOp := [⟨(some 12), .mv (.k (.int .i64 0)), none, none, [], none⟩]
def ac_law05_PageTurned_15 : AC := .reg l_law05_PageTurned_15
def l_law05_PageTurned_16 : List AOp := [⟨(some 41), .mv (.t 12), none, none, [], none⟩,
  ⟨(some 42), .bin .lss (.t 41) (.k (.int .i64 32)), none, none, [], none⟩]
def ac_law05_PageTurned_16 : AC := .reg l_law05_PageTurned_16
def ac_law05_PageTurned_17 : AC := .cond (.t 42) .skip (.exit 0)
def ac_law05_PageTurned_18 : AC := .seq ac_law05_PageTurned_16 ac_law05_PageTurned_17
def l_law05_PageTurned_19 : List AOp := [⟨(some 45), .mv (.t 11), none, none, [], none⟩,
  ⟨(some 46), .mv (.t 12), none, none, [], none⟩,
  ⟨(some 47), .bin .add (.t 45) (.t 46), none, none, [], none⟩,
  ⟨(some 48), .mv (.t 10), none, none, [], none⟩,
  ⟨(some 49), .bin .lss (.t 47) (.t 48), none, none, [], none⟩,
  ⟨(some 50), .mv (.t 49), none, none, [], none⟩,
  ⟨(some 51), .mv (.t 2), (some (50, true)), none, [], none⟩,
  ⟨(some 52), .mv (.t 12), (some (50, true)), none, [], none⟩,
  ⟨(some 53), .bin .sub (.k (.int .i64 31)) (.t 52), (some (50, true)), none, [], none⟩,
  ⟨(some 54), .conv .u64 (.t 53), (some (50, true)), none, [], none⟩,
  ⟨(some 55), .bin .shr (.t 51) (.t 54), (some (50, true)), none, [], none⟩,
  ⟨(some 56), .bin .and (.t 55) (.k (.int .u32 1)), (some (50, true)), none, [], none⟩,
  ⟨(some 57), .bin .eql (.t 56) (.k (.int .u32 1)), (some (50, true)), none, [], none⟩,
  ⟨(some 58), .pick (.t 50) (.t 57) (.k (.bool false)), none, none, [], none⟩]
def ac_law05_PageTurned_19 : AC := .reg l_law05_PageTurned_19
def l_law05_PageTurned_20 : List AOp := [⟨(some 59), .mv (.t 9), none, none, [], none⟩,
  ⟨(some 60), .mv (.t 11), none, none, [], none⟩,
  ⟨(some 61), .mv (.t 12), none, none, [], none⟩,
  ⟨(some 62), .bin .add (.t 60) (.t 61), none, none, [], none⟩,
  ⟨(some 63), .bin .quo (.t 62) (.k (.int .i64 8)), none, none, [], none⟩,
  ⟨(some 64), .mv (.t 9), none, none, [], none⟩,
  ⟨(some 65), .mv (.t 11), none, none, [], none⟩,
  ⟨(some 66), .mv (.t 12), none, none, [], none⟩,
  ⟨(some 67), .bin .add (.t 65) (.t 66), none, none, [], none⟩,
  ⟨(some 68), .bin .quo (.t 67) (.k (.int .i64 8)), none, none, [], none⟩,
  ⟨(some 69), .isl 1 (.t 64) (.t 68), none, none, [], none⟩,
  ⟨(some 70), .load none (.t 69), none, none, [], none⟩,
  ⟨(some 71), .mv (.t 11), none, none, [], none⟩,
  ⟨(some 72), .mv (.t 12), none, none, [], none⟩,
  ⟨(some 73), .bin .add (.t 71) (.t 72), none, none, [], none⟩,
  ⟨(some 74), .bin .rem (.t 73) (.k (.int .i64 8)), none, none, [], none⟩,
  ⟨(some 75), .conv .u64 (.t 74), none, none, [], none⟩,
  ⟨(some 76), .bin .shr (.k (.int .u8 128)) (.t 75), none, none, [], none⟩,
  ⟨(some 77), .bin .xor (.t 70) (.t 76), none, none, [], none⟩,
  ⟨(some 78), .isl 1 (.t 59) (.t 63), none, none, [], none⟩,
  ⟨none, .store 1 (.t 78) (.t 77), none, none, [], none⟩]
def ac_law05_PageTurned_20 : AC := .reg l_law05_PageTurned_20
def ac_law05_PageTurned_21 : AC := .cond (.t 58) ac_law05_PageTurned_20 .skip
def ac_law05_PageTurned_22 : AC := .seq ac_law05_PageTurned_19 ac_law05_PageTurned_21
def ac_law05_PageTurned_23 : AC := .block 1 ac_law05_PageTurned_22
def l_law05_PageTurned_24 : List AOp := [⟨(some 43), .mv (.t 12), none, none, [], none⟩,
  ⟨(some 44), .bin .add (.t 43) (.k (.int .i64 1)), none, none, [], none⟩,
  ⟨(some 12), .mv (.t 44), none, none, [], none⟩]
def ac_law05_PageTurned_24 : AC := .reg l_law05_PageTurned_24
def ac_law05_PageTurned_25 : AC := .seq ac_law05_PageTurned_23 ac_law05_PageTurned_24
def ac_law05_PageTurned_26 : AC := .seq ac_law05_PageTurned_18 ac_law05_PageTurned_25
def ac_law05_PageTurned_27 : AC := .loop [2, 3, 7, 9, 10, 11, 12] 2 ac_law05_PageTurned_26
def ac_law05_PageTurned_28 : AC := .block 0 ac_law05_PageTurned_27
def ac_law05_PageTurned_29 : AC := .seq ac_law05_PageTurned_15 ac_law05_PageTurned_28
def l_law05_PageTurned_30 : List AOp := [⟨(some 80), .mv (.t 9), none, none, [], none⟩,
  ⟨(some 81), .b2s (.t 80), none, none, [], none⟩,
  ⟨(some 82), .call false 17 [(.t 81)], none, none, [], none⟩,
  ⟨(some 79), .mv (.t 82), none, none, [], none⟩,
  ⟨(some 83), .ext 0 (.t 79), none, none, [], none⟩,
  ⟨(some 84), .ext 1 (.t 79), none, none, [], none⟩,
  ⟨(some 13), .alloc [(.int .i64 0), (.int .i64 0), (.int .i64 0), (.int .i64 0), (.str [])], none, none, [], none⟩,
  ⟨none, .store 5 (.t 13) (.t 83), none, none, [], none⟩,
  ⟨(some 14), .mv (.t 84), none, none, [], none⟩]
def ac_law05_PageTurned_30 : AC := .reg l_law05_PageTurned_30
def l_law05_PageTurned_31 : List AOp := [⟨(some 85), .mv (.t 9), none, none, [], none⟩,
  ⟨(some 86), .b2s (.t 85), none, none, [], none⟩,
  ⟨(some 87), .mv (.t 7), none, none, [], none⟩,
  ⟨(some 88), .bin .eql (.t 86) (.t 87), none, none, [], none⟩]
def ac_law05_PageTurned_31 : AC := .reg l_law05_PageTurned_31
def l_law05_PageTurned_32 : List AOp := [⟨(some 89), .call false 10 [], none, none, [], none⟩,
  ⟨(some 90), .mv (.t 89), none, none, [], none⟩,
  ⟨(some 91), .mv (.t 14), (some (90, true)), none, [], none⟩,
  ⟨(some 92), .bin .eql (.t 91) (.k (.int .i64 0)), (some (90, true)), none, [], none⟩,
  ⟨(some 93), .pick (.t 90) (.t 92) (.k (.bool false)), none, none, [], none⟩,
  ⟨(some 94), .mv (.t 93), none, none, [], none⟩,
  ⟨(some 95), .load (some 5) (.t 13), (some (94, true)), none, [], none⟩,
  ⟨(some 96), .load (some 5) (.t 3), (some (94, true)), none, [], none⟩,
  ⟨(some 97), .eqs false [.i, .i, .i, .i, .s] (.t 95) (.t 96), (some (94, true)), none, [], none⟩,
  ⟨(some 98), .pick (.t 94) (.t 97) (.k (.bool false)), none, none, [], none⟩,
  ⟨(some 6), .mv (.t 98), none, none, [], none⟩]
def ac_law05_PageTurned_32 : AC := .reg l_law05_PageTurned_32
def ac_law05_PageTurned_33 : AC := .seq ac_law05_PageTurned_32 .ret
def ac_law05_PageTurned_34 : AC := .cond (.t 88) ac_law05_PageTurned_33 .skip
def ac_law05_PageTurned_35 : AC := .seq ac_law05_PageTurned_31 ac_law05_PageTurned_34
def l_law05_PageTurned_36 : List AOp := [⟨(some 99), .call false 10 [], none, none, [], none⟩,
  ⟨(some 100), .mv (.t 99), none, none, [], none⟩,
  ⟨(some 101), .mv (.t 14), (some (100, true)), none, [], none⟩,
  ⟨(some 102), .bin .eql (.t 101) (.k (.int .i64 6)), (some (100, true)), none, [], none⟩,
  ⟨(some 103), .pick (.t 100) (.t 102) (.k (.bool false)), none, none, [], none⟩,
  ⟨(some 104), .mv (.t 103), none, none, [], none⟩,
  ⟨(some 105), .load (some 5) (.t 13), (some (104, true)), none, [], none⟩,
  ⟨(some 106), .build [(.int .i64 0), (.int .i64 0), (.int .i64 0), (.int .i64 0), (.str [])] [], (some (104, true)), none, [], none⟩,
  ⟨(some 107), .eqs false [.i, .i, .i, .i, .s] (.t 105) (.t 106), (some (104, true)), none, [], none⟩,
  ⟨(some 108), .pick (.t 104) (.t 107) (.k (.bool false)), none, none, [], none⟩,
  ⟨(some 6), .mv (.t 108), none, none, [], none⟩]
def ac_law05_PageTurned_36 : AC := .reg l_law05_PageTurned_36
def ac_law05_PageTurned_37 : AC := .seq ac_law05_PageTurned_36 .ret
def ac_law05_PageTurned_38 : AC := .seq ac_law05_PageTurned_35 ac_law05_PageTurned_37
def ac_law05_PageTurned_39 : AC := .seq ac_law05_PageTurned_30 ac_law05_PageTurned_38
def ac_law05_PageTurned_40 : AC := .seq ac_law05_PageTurned_29 ac_law05_PageTurned_39
def ac_law05_PageTurned_41 : AC := .seq ac_law05_PageTurned_14 ac_law05_PageTurned_40
def ac_law05_PageTurned_42 : AC := .seq ac_law05_PageTurned_13 ac_law05_PageTurned_41
def ac_law05_PageTurned_43 : AC := .seq ac_law05_PageTurned_8 ac_law05_PageTurned_42
def ac_law05_PageTurned_44 : AC := .seq ac_law05_PageTurned_7 ac_law05_PageTurned_43
def ac_law05_PageTurned_45 : AC := .seq ac_law05_PageTurned_6 ac_law05_PageTurned_44
def ac_law05_PageTurned_46 : AC := .seq ac_law05_PageTurned_1 ac_law05_PageTurned_45
def ac_law05_PageTurned_47 : AC := .seq ac_law05_PageTurned_0 ac_law05_PageTurned_46
def ac_law05_PageTurned : AC := ac_law05_PageTurned_47
theorem comp_law05_PageTurned : compF Try.prog [28] (drawR Try.prog [28] Try.f9.ntmps) [([2, 3, 7, 9, 10, 11, 12], 2)] 3 Try.f9 = some (ac_law05_PageTurned, [.t 6]) := by kernel_rfl
def U_law05_PageTurned := (And.intro (And.intro (And.intro (And.intro (And.intro (And.intro (And.intro @ac_law05_PageTurned.eq_1 (@mR _ _ ac_law05_PageTurned_0.eq_1)) (@mR _ _ ac_law05_PageTurned_1.eq_1)) (And.intro (@mR _ _ ac_law05_PageTurned_2.eq_1) (@mR _ _ ac_law05_PageTurned_3.eq_1))) (And.intro (And.intro (@mU _ _ ac_law05_PageTurned_4.eq_1) (@mU _ _ ac_law05_PageTurned_5.eq_1)) (And.intro (@mU _ _ ac_law05_PageTurned_6.eq_1) (@mR _ _ ac_law05_PageTurned_7.eq_1)))) (And.intro (And.intro (And.intro (@mR _ _ ac_law05_PageTurned_8.eq_1) (@mR _ _ ac_law05_PageTurned_9.eq_1)) (And.intro (@mR _ _ ac_law05_PageTurned_10.eq_1) (@mU _ _ ac_law05_PageTurned_11.eq_1))) (And.intro (And.intro (@mU _ _ ac_law05_PageTurned_12.eq_1) (@mU _ _ ac_law05_PageTurned_13.eq_1)) (And.intro (@mR _ _ ac_law05_PageTurned_14.eq_1) (@mR _ _ ac_law05_PageTurned_15.eq_1))))) (And.intro (And.intro (And.intro (And.intro (And.intro (@mR _ _ ac_law05_PageTurned_16.eq_1) (@mU _ _ ac_law05_PageTurned_17.eq_1)) (@mU _ _ ac_law05_PageTurned_18.eq_1)) (And.intro (@mR _ _ ac_law05_PageTurned_19.eq_1) (@mR _ _ ac_law05_PageTurned_20.eq_1))) (And.intro (And.intro (@mU _ _ ac_law05_PageTurned_21.eq_1) (@mU _ _ ac_law05_PageTurned_22.eq_1)) (And.intro (@mU _ _ ac_law05_PageTurned_23.eq_1) (@mR _ _ ac_law05_PageTurned_24.eq_1)))) (And.intro (And.intro (And.intro (@mU _ _ ac_law05_PageTurned_25.eq_1) (@mU _ _ ac_law05_PageTurned_26.eq_1)) (And.intro (@mU _ _ ac_law05_PageTurned_27.eq_1) (@mU _ _ ac_law05_PageTurned_28.eq_1))) (And.intro (And.intro (@mU _ _ ac_law05_PageTurned_29.eq_1) (@mR _ _ ac_law05_PageTurned_30.eq_1)) (And.intro (@mR _ _ ac_law05_PageTurned_31.eq_1) (@mR _ _ ac_law05_PageTurned_32.eq_1)))))) (And.intro (And.intro (And.intro (And.intro (And.intro (And.intro (@mU _ _ ac_law05_PageTurned_33.eq_1) (@mU _ _ ac_law05_PageTurned_34.eq_1)) (@mU _ _ ac_law05_PageTurned_35.eq_1)) (And.intro (@mR _ _ ac_law05_PageTurned_36.eq_1) (@mU _ _ ac_law05_PageTurned_37.eq_1))) (And.intro (And.intro (@mU _ _ ac_law05_PageTurned_38.eq_1) (@mU _ _ ac_law05_PageTurned_39.eq_1)) (And.intro (@mU _ _ ac_law05_PageTurned_40.eq_1) (@mU _ _ ac_law05_PageTurned_41.eq_1)))) (And.intro (And.intro (And.intro (@mU _ _ ac_law05_PageTurned_42.eq_1) (@mU _ _ ac_law05_PageTurned_43.eq_1)) (And.intro (@mU _ _ ac_law05_PageTurned_44.eq_1) (@mU _ _ ac_law05_PageTurned_45.eq_1))) (And.intro (And.intro (@mU _ _ ac_law05_PageTurned_46.eq_1) (@mU _ _ ac_law05_PageTurned_47.eq_1)) (And.intro @l_law05_PageTurned_0.eq_1 @l_law05_PageTurned_1.eq_1)))) (And.intro (And.intro (And.intro (And.intro @l_law05_PageTurned_2.eq_1 @l_law05_PageTurned_3.eq_1) (And.intro @l_law05_PageTurned_7.eq_1 @l_law05_PageTurned_8.eq_1)) (And.intro (And.intro @l_law05_PageTurned_9.eq_1 @l_law05_PageTurned_10.eq_1) (And.intro @l_law05_PageTurned_14.eq_1 @l_law05_PageTurned_15.eq_1))) (And.intro (And.intro (And.intro @l_law05_PageTurned_16.eq_1 @l_law05_PageTurned_19.eq_1) (And.intro @l_law05_PageTurned_20.eq_1 @l_law05_PageTurned_24.eq_1)) (And.intro (And.intro @l_law05_PageTurned_30.eq_1 @l_law05_PageTurned_31.eq_1) (And.intro @l_law05_PageTurned_32.eq_1 @l_law05_PageTurned_36.eq_1))))))

/- scoria/scorialaw05.awake -/
def l_law05_awake_0 : List AOp := [⟨(some 0), .mv (.k (.bool false)), none, none, [], none⟩]
def ac_law05_awake_0 : AC := .reg l_law05_awake_0
def l_law05_awake_1 : List AOp := [⟨(some 4), .build [(.int .i64 0), (.int .i64 0), (.int .i64 0), (.int .i64 0), (.str [])] [(0, 1, (.k (.int .i64 1))), (1, 1, (.k (.int .i64 1))), (2, 1, (.k (.int .i64 2))), (3, 1, (.k (.int .i64 3))), (4, 1, (.k (.str [97, 98])))], none, none, [], none⟩,
  ⟨(some 5), .call false 11 [(.t 4)], none, none, [], none⟩,
  ⟨(some 3), .mv (.t 5), none, none, [], none⟩,
  ⟨(some 6), .ext 0 (.t 3), none, none, [], none⟩,
  ⟨(some 7), .ext 1 (.t 3), none, none, [], none⟩,
  ⟨(some 1), .mv (.t 6), none, none, [], none⟩,
  ⟨(some 2), .mv (.t 7), none, none, [], none⟩]
def ac_law05_awake_1 : AC := .reg l_law05_awake_1
def l_law05_awake_2 : List AOp := [⟨(some 8), .mv (.t 2), none, none, [], none⟩,
  ⟨(some 9), .bin .eql (.t 8) (.k (.int .i64 0)), none, none, [], none⟩,
  ⟨(some 10), .mv (.t 9), none, none, [], none⟩,
  ⟨(some 11), .mv (.t 1), (some (10, true)), none, [], none⟩,
  ⟨(some 12), .lens (.t 11), (some (10, true)), none, [], none⟩,
  ⟨(some 13), .bin .eql (.t 12) (.k (.int .i64 22)), (some (10, true)), none, [], none⟩,
  ⟨(some 14), .pick (.t 10) (.t 13) (.k (.bool false)), none, none, [], none⟩,
  ⟨(some 15), .mv (.t 14), none, none, [], none⟩,
  ⟨(some 16), .mv (.t 1), (some (15, true)), none, [], none⟩,
  ⟨(some 17), .sstr (.t 16) none (some (.k (.int .i64 18))), (some (15, true)), none, [], none⟩,
  ⟨(some 18), .bin .eql (.t 17) (.k (.str [83, 99, 1, 1, 0, 2, 0, 0, 0, 3, 0, 0, 0, 0, 0, 2, 97, 98])), (some (15, true)), none, [], none⟩,
  ⟨(some 19), .pick (.t 15) (.t 18) (.k (.bool false)), none, none, [], none⟩,
  ⟨(some 20), .mv (.t 19), none, none, [], none⟩,
  ⟨(some 21), .call false 15 [(.k (.int .i64 2))], (some (20, true)), none, [], none⟩,
  ⟨(some 22), .bin .eql (.t 21) (.k (.str [108, 101, 97, 102])), (some (20, true)), none, [], none⟩,
  ⟨(some 23), .pick (.t 20) (.t 22) (.k (.bool false)), none, none, [], none⟩,
  ⟨(some 0), .mv (.t 23), none, none, [], none⟩]
def ac_law05_awake_2 : AC := .reg l_law05_awake_2
def ac_law05_awake_3 : AC := .seq ac_law05_awake_2 .ret
def ac_law05_awake_4 : AC := .seq ac_law05_awake_1 ac_law05_awake_3
def ac_law05_awake_5 : AC := .seq ac_law05_awake_0 ac_law05_awake_4
def ac_law05_awake : AC := ac_law05_awake_5
theorem comp_law05_awake : compF Try.prog [] (drawR Try.prog [] Try.f10.ntmps) [] 0 Try.f10 = some (ac_law05_awake, [.t 0]) := by kernel_rfl
def U_law05_awake := (And.intro (And.intro (And.intro (And.intro @ac_law05_awake.eq_1 (@mR _ _ ac_law05_awake_0.eq_1)) (@mR _ _ ac_law05_awake_1.eq_1)) (And.intro (@mR _ _ ac_law05_awake_2.eq_1) (@mU _ _ ac_law05_awake_3.eq_1))) (And.intro (And.intro (And.intro (@mU _ _ ac_law05_awake_4.eq_1) (@mU _ _ ac_law05_awake_5.eq_1)) @l_law05_awake_0.eq_1) (And.intro @l_law05_awake_1.eq_1 @l_law05_awake_2.eq_1)))

end Go.Proofs.Ytgkcoijhofcmjaa.Aw
