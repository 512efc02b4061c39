/-
  The functions of the seat, translated to abstract code. Written by a program (wip/Gen2.lean).
-/
import Derived.Test.YtlkpceacmfndlaaCode
import Derived.Test.YtlkpceacmfndlaaProg
set_option maxRecDepth 100000
set_option linter.all false
namespace Go.Proofs.Ytlkpceacmfndlaa.Aw
open Go.RowKit
/- scoria/scorialaw09.LeafWrites -/
def l_law09_LeafWrites_0 : List AOp := [⟨(some 2), .mv (.k (.bool false)), none, none, [], none⟩]
def ac_law09_LeafWrites_0 : AC := .reg l_law09_LeafWrites_0
def l_law09_LeafWrites_1 : List AOp := [⟨(some 7), .mv (.t 0), none, none, [], none⟩,
  ⟨(some 8), .len (.t 7), none, none, [], none⟩,
  ⟨(some 9), .bin .gtr (.t 8) (.k (.int .i64 60)), none, none, [], none⟩]
def ac_law09_LeafWrites_1 : AC := .reg l_law09_LeafWrites_1
def l_law09_LeafWrites_2 : List AOp := [⟨(some 10), .call false 9 [], none, none, [], none⟩,
  ⟨(some 2), .mv (.t 10), none, none, [], none⟩]
def ac_law09_LeafWrites_2 : AC := .reg l_law09_LeafWrites_2
def ac_law09_LeafWrites_3 : AC := .seq ac_law09_LeafWrites_2 .ret
def ac_law09_LeafWrites_4 : AC := .cond (.t 9) ac_law09_LeafWrites_3 .skip
def ac_law09_LeafWrites_5 : AC := .seq ac_law09_LeafWrites_1 ac_law09_LeafWrites_4
def l_law09_LeafWrites_6 : List AOp := [⟨(some 12), .mv (.t 0), none, none, [], none⟩,
  ⟨(some 13), .call false 10 [(.t 12)], none, none, [], none⟩,
  ⟨(some 11), .mv (.t 13), none, none, [], none⟩,
  ⟨(some 14), .ext 0 (.t 11), none, none, [], none⟩,
  ⟨(some 15), .ext 1 (.t 11), none, none, [], none⟩,
  ⟨(some 3), .mv (.t 14), none, none, [], none⟩,
  ⟨(some 4), .mv (.t 15), none, none, [], none⟩]
def ac_law09_LeafWrites_6 : AC := .reg l_law09_LeafWrites_6
def l_law09_LeafWrites_7 : List AOp := [⟨(some 17), .mv (.t 0), none, none, [], none⟩,
  ⟨(some 18), .call false 12 [(.t 17)], none, none, [], none⟩,
  ⟨(some 19), .call false 11 [(.t 18)], none, none, [], none⟩,
  ⟨(some 16), .mv (.t 19), none, none, [], none⟩,
  ⟨(some 20), .ext 0 (.t 16), none, none, [], none⟩,
  ⟨(some 21), .ext 1 (.t 16), none, none, [], none⟩,
  ⟨(some 5), .mv (.t 20), none, none, [], none⟩,
  ⟨(some 6), .mv (.t 21), none, none, [], none⟩]
def ac_law09_LeafWrites_7 : AC := .reg l_law09_LeafWrites_7
def l_law09_LeafWrites_8 : List AOp := [⟨(some 22), .call false 9 [], none, none, [], none⟩,
  ⟨(some 23), .mv (.t 22), none, none, [], none⟩,
  ⟨(some 24), .mv (.t 3), (some (23, true)), none, [], none⟩,
  ⟨(some 25), .mv (.t 5), (some (23, true)), none, [], none⟩,
  ⟨(some 26), .bin .eql (.t 24) (.t 25), (some (23, true)), none, [], none⟩,
  ⟨(some 27), .pick (.t 23) (.t 26) (.k (.bool false)), none, none, [], none⟩,
  ⟨(some 28), .mv (.t 27), none, none, [], none⟩,
  ⟨(some 29), .mv (.t 4), (some (28, true)), none, [], none⟩,
  ⟨(some 30), .mv (.t 6), (some (28, true)), none, [], none⟩,
  ⟨(some 31), .bin .eql (.t 29) (.t 30), (some (28, true)), none, [], none⟩,
  ⟨(some 32), .pick (.t 28) (.t 31) (.k (.bool false)), none, none, [], none⟩,
  ⟨(some 33), .mv (.t 32), none, none, [], none⟩,
  ⟨(some 34), .mv (.t 3), (some (33, true)), none, [], none⟩,
  ⟨(some 35), .lens (.t 34), (some (33, true)), none, [], none⟩,
  ⟨(some 36), .bin .leq (.t 35) (.k (.int .i64 100)), (some (33, true)), none, [], none⟩,
  ⟨(some 37), .pick (.t 33) (.t 36) (.k (.bool false)), none, none, [], none⟩,
  ⟨(some 2), .mv (.t 37), none, none, [], none⟩]
def ac_law09_LeafWrites_8 : AC := .reg l_law09_LeafWrites_8
def ac_law09_LeafWrites_9 : AC := .seq ac_law09_LeafWrites_8 .ret
def ac_law09_LeafWrites_10 : AC := .seq ac_law09_LeafWrites_7 ac_law09_LeafWrites_9
def ac_law09_LeafWrites_11 : AC := .seq ac_law09_LeafWrites_6 ac_law09_LeafWrites_10
def ac_law09_LeafWrites_12 : AC := .seq ac_law09_LeafWrites_5 ac_law09_LeafWrites_11
def ac_law09_LeafWrites_13 : AC := .seq ac_law09_LeafWrites_0 ac_law09_LeafWrites_12
def ac_law09_LeafWrites : AC := ac_law09_LeafWrites_13
theorem comp_law09_LeafWrites : compF Try.prog [] (drawR Try.prog [] Try.f3.ntmps) [] 1 Try.f3 = some (ac_law09_LeafWrites, [.t 2]) := by kernel_rfl
def U_law09_LeafWrites := (And.intro (And.intro (And.intro (And.intro (And.intro @ac_law09_LeafWrites.eq_1 (@mR _ _ ac_law09_LeafWrites_0.eq_1)) (@mR _ _ ac_law09_LeafWrites_1.eq_1)) (And.intro (And.intro (@mR _ _ ac_law09_LeafWrites_2.eq_1) (@mU _ _ ac_law09_LeafWrites_3.eq_1)) (@mU _ _ ac_law09_LeafWrites_4.eq_1))) (And.intro (And.intro (And.intro (@mU _ _ ac_law09_LeafWrites_5.eq_1) (@mR _ _ ac_law09_LeafWrites_6.eq_1)) (@mR _ _ ac_law09_LeafWrites_7.eq_1)) (And.intro (@mR _ _ ac_law09_LeafWrites_8.eq_1) (@mU _ _ ac_law09_LeafWrites_9.eq_1)))) (And.intro (And.intro (And.intro (And.intro (@mU _ _ ac_law09_LeafWrites_10.eq_1) (@mU _ _ ac_law09_LeafWrites_11.eq_1)) (@mU _ _ ac_law09_LeafWrites_12.eq_1)) (And.intro (@mU _ _ ac_law09_LeafWrites_13.eq_1) @l_law09_LeafWrites_0.eq_1)) (And.intro (And.intro (And.intro @l_law09_LeafWrites_1.eq_1 @l_law09_LeafWrites_2.eq_1) @l_law09_LeafWrites_6.eq_1) (And.intro @l_law09_LeafWrites_7.eq_1 @l_law09_LeafWrites_8.eq_1))))

/- scoria/scorialaw09.LeafReads -/
def l_law09_LeafReads_0 : List AOp := [⟨(some 2), .mv (.k (.bool false)), none, none, [], none⟩]
def ac_law09_LeafReads_0 : AC := .reg l_law09_LeafReads_0
def l_law09_LeafReads_1 : List AOp := [⟨(some 11), .mv (.t 0), none, none, [], none⟩,
  ⟨(some 12), .lens (.t 11), none, none, [], none⟩,
  ⟨(some 13), .bin .gtr (.t 12) (.k (.int .i64 2000)), none, none, [], none⟩]
def ac_law09_LeafReads_1 : AC := .reg l_law09_LeafReads_1
def l_law09_LeafReads_2 : List AOp := [⟨(some 14), .call false 9 [], none, none, [], none⟩,
  ⟨(some 2), .mv (.t 14), none, none, [], none⟩]
def ac_law09_LeafReads_2 : AC := .reg l_law09_LeafReads_2
def ac_law09_LeafReads_3 : AC := .seq ac_law09_LeafReads_2 .ret
def ac_law09_LeafReads_4 : AC := .cond (.t 13) ac_law09_LeafReads_3 .skip
def ac_law09_LeafReads_5 : AC := .seq ac_law09_LeafReads_1 ac_law09_LeafReads_4
def l_law09_LeafReads_6 : List AOp := [⟨(some 16), .mv (.t 0), none, none, [], none⟩,
  ⟨(some 17), .call false 13 [(.t 16)], none, none, [], none⟩,
  ⟨(some 15), .mv (.t 17), none, none, [], none⟩,
  ⟨(some 18), .ext 0 (.t 15), none, none, [], none⟩,
  ⟨(some 19), .ext 1 (.t 15), none, none, [], none⟩,
  ⟨(some 3), .mv (.t 18), none, none, [], none⟩,
  ⟨(some 4), .mv (.t 19), none, none, [], none⟩]
def ac_law09_LeafReads_6 : AC := .reg l_law09_LeafReads_6
def l_law09_LeafReads_7 : List AOp := [⟨(some 21), .mv (.t 0), none, none, [], none⟩,
  ⟨(some 22), .call false 14 [(.t 21)], none, none, [], none⟩,
  ⟨(some 20), .mv (.t 22), none, none, [], none⟩,
  ⟨(some 23), .ext 0 (.t 20), none, none, [], none⟩,
  ⟨(some 24), .ext 1 (.t 20), none, none, [], none⟩,
  ⟨(some 5), .mv (.t 23), none, none, [], none⟩,
  ⟨(some 6), .mv (.t 24), none, none, [], none⟩]
def ac_law09_LeafReads_7 : AC := .reg l_law09_LeafReads_7
def l_law09_LeafReads_8 : List AOp := [⟨(some 26), .mv (.t 0), none, none, [], none⟩,
  ⟨(some 27), .call false 15 [(.t 26)], none, none, [], none⟩,
  ⟨(some 25), .mv (.t 27), none, none, [], none⟩,
  ⟨(some 28), .ext 0 (.t 25), none, none, [], none⟩,
  ⟨(some 29), .ext 1 (.t 25), none, none, [], none⟩,
  ⟨(some 7), .mv (.t 28), none, none, [], none⟩,
  ⟨(some 8), .mv (.t 29), none, none, [], none⟩]
def ac_law09_LeafReads_8 : AC := .reg l_law09_LeafReads_8
def l_law09_LeafReads_9 : List AOp := [⟨(some 31), .mv (.t 0), none, none, [], none⟩,
  ⟨(some 32), .call false 16 [(.t 31)], none, none, [], none⟩,
  ⟨(some 30), .mv (.t 32), none, none, [], none⟩,
  ⟨(some 33), .ext 0 (.t 30), none, none, [], none⟩,
  ⟨(some 34), .ext 1 (.t 30), none, none, [], none⟩,
  ⟨(some 9), .mv (.t 33), none, none, [], none⟩,
  ⟨(some 10), .mv (.t 34), none, none, [], none⟩]
def ac_law09_LeafReads_9 : AC := .reg l_law09_LeafReads_9
def l_law09_LeafReads_10 : List AOp := [⟨(some 35), .call false 9 [], none, none, [], none⟩,
  ⟨(some 36), .mv (.t 35), none, none, [], none⟩,
  ⟨(some 37), .mv (.t 3), (some (36, true)), none, [], none⟩,
  ⟨(some 38), .call false 12 [(.t 37)], (some (36, true)), none, [], none⟩,
  ⟨(some 39), .mv (.t 5), (some (36, true)), none, [], none⟩,
  ⟨(some 40), .call false 17 [(.t 38), (.t 39)], (some (36, true)), none, [], none⟩,
  ⟨(some 41), .pick (.t 36) (.t 40) (.k (.bool false)), none, none, [], none⟩,
  ⟨(some 42), .mv (.t 41), none, none, [], none⟩,
  ⟨(some 43), .mv (.t 4), (some (42, true)), none, [], none⟩,
  ⟨(some 44), .mv (.t 6), (some (42, true)), none, [], none⟩,
  ⟨(some 45), .bin .eql (.t 43) (.t 44), (some (42, true)), none, [], none⟩,
  ⟨(some 46), .pick (.t 42) (.t 45) (.k (.bool false)), none, none, [], none⟩,
  ⟨(some 47), .mv (.t 46), none, none, [], none⟩,
  ⟨(some 48), .mv (.t 7), (some (47, true)), none, [], none⟩,
  ⟨(some 49), .call false 19 [(.t 48)], (some (47, true)), none, [], none⟩,
  ⟨(some 50), .mv (.t 9), (some (47, true)), none, [], none⟩,
  ⟨(some 51), .call false 18 [(.t 49), (.t 50)], (some (47, true)), none, [], none⟩,
  ⟨(some 52), .pick (.t 47) (.t 51) (.k (.bool false)), none, none, [], none⟩,
  ⟨(some 53), .mv (.t 52), none, none, [], none⟩,
  ⟨(some 54), .mv (.t 8), (some (53, true)), none, [], none⟩,
  ⟨(some 55), .mv (.t 10), (some (53, true)), none, [], none⟩,
  ⟨(some 56), .bin .eql (.t 54) (.t 55), (some (53, true)), none, [], none⟩,
  ⟨(some 57), .pick (.t 53) (.t 56) (.k (.bool false)), none, none, [], none⟩,
  ⟨(some 2), .mv (.t 57), none, none, [], none⟩]
def ac_law09_LeafReads_10 : AC := .reg l_law09_LeafReads_10
def ac_law09_LeafReads_11 : AC := .seq ac_law09_LeafReads_10 .ret
def ac_law09_LeafReads_12 : AC := .seq ac_law09_LeafReads_9 ac_law09_LeafReads_11
def ac_law09_LeafReads_13 : AC := .seq ac_law09_LeafReads_8 ac_law09_LeafReads_12
def ac_law09_LeafReads_14 : AC := .seq ac_law09_LeafReads_7 ac_law09_LeafReads_13
def ac_law09_LeafReads_15 : AC := .seq ac_law09_LeafReads_6 ac_law09_LeafReads_14
def ac_law09_LeafReads_16 : AC := .seq ac_law09_LeafReads_5 ac_law09_LeafReads_15
def ac_law09_LeafReads_17 : AC := .seq ac_law09_LeafReads_0 ac_law09_LeafReads_16
def ac_law09_LeafReads : AC := ac_law09_LeafReads_17
theorem comp_law09_LeafReads : compF Try.prog [] (drawR Try.prog [] Try.f4.ntmps) [] 1 Try.f4 = some (ac_law09_LeafReads, [.t 2]) := by kernel_rfl
def U_law09_LeafReads := (And.intro (And.intro (And.intro (And.intro (And.intro @ac_law09_LeafReads.eq_1 (@mR _ _ ac_law09_LeafReads_0.eq_1)) (And.intro (@mR _ _ ac_law09_LeafReads_1.eq_1) (@mR _ _ ac_law09_LeafReads_2.eq_1))) (And.intro (And.intro (@mU _ _ ac_law09_LeafReads_3.eq_1) (@mU _ _ ac_law09_LeafReads_4.eq_1)) (@mU _ _ ac_law09_LeafReads_5.eq_1))) (And.intro (And.intro (And.intro (@mR _ _ ac_law09_LeafReads_6.eq_1) (@mR _ _ ac_law09_LeafReads_7.eq_1)) (And.intro (@mR _ _ ac_law09_LeafReads_8.eq_1) (@mR _ _ ac_law09_LeafReads_9.eq_1))) (And.intro (And.intro (@mR _ _ ac_law09_LeafReads_10.eq_1) (@mU _ _ ac_law09_LeafReads_11.eq_1)) (@mU _ _ ac_law09_LeafReads_12.eq_1)))) (And.intro (And.intro (And.intro (And.intro (@mU _ _ ac_law09_LeafReads_13.eq_1) (@mU _ _ ac_law09_LeafReads_14.eq_1)) (And.intro (@mU _ _ ac_law09_LeafReads_15.eq_1) (@mU _ _ ac_law09_LeafReads_16.eq_1))) (And.intro (And.intro (@mU _ _ ac_law09_LeafReads_17.eq_1) @l_law09_LeafReads_0.eq_1) @l_law09_LeafReads_1.eq_1)) (And.intro (And.intro (And.intro @l_law09_LeafReads_2.eq_1 @l_law09_LeafReads_6.eq_1) @l_law09_LeafReads_7.eq_1) (And.intro (And.intro @l_law09_LeafReads_8.eq_1 @l_law09_LeafReads_9.eq_1) @l_law09_LeafReads_10.eq_1))))

/- scoria/scorialaw09.LeafInner -/
def l_law09_LeafInner_0 : List AOp := [⟨(some 2), .mv (.k (.bool false)), none, none, [], none⟩]
def ac_law09_LeafInner_0 : AC := .reg l_law09_LeafInner_0
def l_law09_LeafInner_1 : List AOp := [⟨(some 7), .mv (.t 0), none, none, [], none⟩,
  ⟨(some 8), .len (.t 7), none, none, [], none⟩,
  ⟨(some 9), .bin .gtr (.t 8) (.k (.int .i64 60)), none, none, [], none⟩]
def ac_law09_LeafInner_1 : AC := .reg l_law09_LeafInner_1
def l_law09_LeafInner_2 : List AOp := [⟨(some 10), .call false 9 [], none, none, [], none⟩,
  ⟨(some 2), .mv (.t 10), none, none, [], none⟩]
def ac_law09_LeafInner_2 : AC := .reg l_law09_LeafInner_2
def ac_law09_LeafInner_3 : AC := .seq ac_law09_LeafInner_2 .ret
def ac_law09_LeafInner_4 : AC := .cond (.t 9) ac_law09_LeafInner_3 .skip
def ac_law09_LeafInner_5 : AC := .seq ac_law09_LeafInner_1 ac_law09_LeafInner_4
def l_law09_LeafInner_6 : List AOp := [⟨(some 12), .mv (.t 0), none, none, [], none⟩,
  ⟨(some 13), .call false 20 [(.t 12)], none, none, [], none⟩,
  ⟨(some 11), .mv (.t 13), none, none, [], none⟩,
  ⟨(some 14), .ext 0 (.t 11), none, none, [], none⟩,
  ⟨(some 15), .ext 1 (.t 11), none, none, [], none⟩,
  ⟨(some 3), .mv (.t 14), none, none, [], none⟩,
  ⟨(some 4), .mv (.t 15), none, none, [], none⟩]
def ac_law09_LeafInner_6 : AC := .reg l_law09_LeafInner_6
def l_law09_LeafInner_7 : List AOp := [⟨(some 17), .mv (.t 0), none, none, [], none⟩,
  ⟨(some 18), .call false 19 [(.t 17)], none, none, [], none⟩,
  ⟨(some 19), .call false 21 [(.t 18)], none, none, [], none⟩,
  ⟨(some 16), .mv (.t 19), none, none, [], none⟩,
  ⟨(some 20), .ext 0 (.t 16), none, none, [], none⟩,
  ⟨(some 21), .ext 1 (.t 16), none, none, [], none⟩,
  ⟨(some 5), .mv (.t 20), none, none, [], none⟩,
  ⟨(some 6), .mv (.t 21), none, none, [], none⟩]
def ac_law09_LeafInner_7 : AC := .reg l_law09_LeafInner_7
def l_law09_LeafInner_8 : List AOp := [⟨(some 22), .call false 9 [], none, none, [], none⟩,
  ⟨(some 23), .mv (.t 22), none, none, [], none⟩,
  ⟨(some 24), .mv (.t 3), (some (23, true)), none, [], none⟩,
  ⟨(some 25), .mv (.t 5), (some (23, true)), none, [], none⟩,
  ⟨(some 26), .bin .eql (.t 24) (.t 25), (some (23, true)), none, [], none⟩,
  ⟨(some 27), .pick (.t 23) (.t 26) (.k (.bool false)), none, none, [], none⟩,
  ⟨(some 28), .mv (.t 27), none, none, [], none⟩,
  ⟨(some 29), .mv (.t 4), (some (28, true)), none, [], none⟩,
  ⟨(some 30), .mv (.t 6), (some (28, true)), none, [], none⟩,
  ⟨(some 31), .bin .eql (.t 29) (.t 30), (some (28, true)), none, [], none⟩,
  ⟨(some 32), .pick (.t 28) (.t 31) (.k (.bool false)), none, none, [], none⟩,
  ⟨(some 33), .mv (.t 32), none, none, [], none⟩,
  ⟨(some 34), .mv (.t 3), (some (33, true)), none, [], none⟩,
  ⟨(some 35), .lens (.t 34), (some (33, true)), none, [], none⟩,
  ⟨(some 36), .bin .leq (.t 35) (.k (.int .i64 100)), (some (33, true)), none, [], none⟩,
  ⟨(some 37), .pick (.t 33) (.t 36) (.k (.bool false)), none, none, [], none⟩,
  ⟨(some 2), .mv (.t 37), none, none, [], none⟩]
def ac_law09_LeafInner_8 : AC := .reg l_law09_LeafInner_8
def ac_law09_LeafInner_9 : AC := .seq ac_law09_LeafInner_8 .ret
def ac_law09_LeafInner_10 : AC := .seq ac_law09_LeafInner_7 ac_law09_LeafInner_9
def ac_law09_LeafInner_11 : AC := .seq ac_law09_LeafInner_6 ac_law09_LeafInner_10
def ac_law09_LeafInner_12 : AC := .seq ac_law09_LeafInner_5 ac_law09_LeafInner_11
def ac_law09_LeafInner_13 : AC := .seq ac_law09_LeafInner_0 ac_law09_LeafInner_12
def ac_law09_LeafInner : AC := ac_law09_LeafInner_13
theorem comp_law09_LeafInner : compF Try.prog [] (drawR Try.prog [] Try.f5.ntmps) [] 1 Try.f5 = some (ac_law09_LeafInner, [.t 2]) := by kernel_rfl
def U_law09_LeafInner := (And.intro (And.intro (And.intro (And.intro (And.intro @ac_law09_LeafInner.eq_1 (@mR _ _ ac_law09_LeafInner_0.eq_1)) (@mR _ _ ac_law09_LeafInner_1.eq_1)) (And.intro (And.intro (@mR _ _ ac_law09_LeafInner_2.eq_1) (@mU _ _ ac_law09_LeafInner_3.eq_1)) (@mU _ _ ac_law09_LeafInner_4.eq_1))) (And.intro (And.intro (And.intro (@mU _ _ ac_law09_LeafInner_5.eq_1) (@mR _ _ ac_law09_LeafInner_6.eq_1)) (@mR _ _ ac_law09_LeafInner_7.eq_1)) (And.intro (@mR _ _ ac_law09_LeafInner_8.eq_1) (@mU _ _ ac_law09_LeafInner_9.eq_1)))) (And.intro (And.intro (And.intro (And.intro (@mU _ _ ac_law09_LeafInner_10.eq_1) (@mU _ _ ac_law09_LeafInner_11.eq_1)) (@mU _ _ ac_law09_LeafInner_12.eq_1)) (And.intro (@mU _ _ ac_law09_LeafInner_13.eq_1) @l_law09_LeafInner_0.eq_1)) (And.intro (And.intro (And.intro @l_law09_LeafInner_1.eq_1 @l_law09_LeafInner_2.eq_1) @l_law09_LeafInner_6.eq_1) (And.intro @l_law09_LeafInner_7.eq_1 @l_law09_LeafInner_8.eq_1))))

/- scoria/scorialaw09.LeafHalves -/
def l_law09_LeafHalves_0 : List AOp := [⟨(some 6), .mv (.k (.bool false)), none, none, [], none⟩]
def ac_law09_LeafHalves_0 : AC := .reg l_law09_LeafHalves_0
def l_law09_LeafHalves_1 : List AOp := [⟨(some 21), .mv (.t 0), none, none, [], none⟩,
  ⟨(some 22), .len (.t 21), none, none, [], none⟩,
  ⟨(some 23), .bin .gtr (.t 22) (.k (.int .i64 60)), none, none, [], none⟩,
  ⟨(some 24), .mv (.t 23), none, none, [], none⟩,
  ⟨(some 25), .mv (.t 1), (some (24, false)), none, [], none⟩,
  ⟨(some 26), .len (.t 25), (some (24, false)), none, [], none⟩,
  ⟨(some 27), .bin .gtr (.t 26) (.k (.int .i64 60)), (some (24, false)), none, [], none⟩,
  ⟨(some 28), .pick (.t 24) (.k (.bool true)) (.t 27), none, none, [], none⟩]
def ac_law09_LeafHalves_1 : AC := .reg l_law09_LeafHalves_1
def l_law09_LeafHalves_2 : List AOp := [⟨(some 29), .call false 9 [], none, none, [], none⟩,
  ⟨(some 6), .mv (.t 29), none, none, [], none⟩]
def ac_law09_LeafHalves_2 : AC := .reg l_law09_LeafHalves_2
def ac_law09_LeafHalves_3 : AC := .seq ac_law09_LeafHalves_2 .ret
def ac_law09_LeafHalves_4 : AC := .cond (.t 28) ac_law09_LeafHalves_3 .skip
def ac_law09_LeafHalves_5 : AC := .seq ac_law09_LeafHalves_1 ac_law09_LeafHalves_4
def l_law09_LeafHalves_6 : List AOp := [⟨(some 31), .mv (.t 0), none, none, [], none⟩,
  ⟨(some 32), .call false 10 [(.t 31)], none, none, [], none⟩,
  ⟨(some 30), .mv (.t 32), none, none, [], none⟩,
  ⟨(some 33), .ext 0 (.t 30), none, none, [], none⟩,
  ⟨(some 34), .ext 1 (.t 30), none, none, [], none⟩,
  ⟨(some 7), .mv (.t 33), none, none, [], none⟩,
  ⟨(some 8), .mv (.t 34), none, none, [], none⟩]
def ac_law09_LeafHalves_6 : AC := .reg l_law09_LeafHalves_6
def l_law09_LeafHalves_7 : List AOp := [⟨(some 35), .mv (.t 8), none, none, [], none⟩,
  ⟨(some 36), .bin .eql (.t 35) (.k (.int .i64 0)), none, none, [], none⟩,
  ⟨(some 37), .mv (.t 36), none, none, [], none⟩,
  ⟨(some 38), .mv (.t 0), (some (37, true)), none, [], none⟩,
  ⟨(some 39), .len (.t 38), (some (37, true)), none, [], none⟩,
  ⟨(some 40), .bin .gtr (.t 39) (.k (.int .i64 1)), (some (37, true)), none, [], none⟩,
  ⟨(some 41), .pick (.t 37) (.t 40) (.k (.bool false)), none, none, [], none⟩]
def ac_law09_LeafHalves_7 : AC := .reg l_law09_LeafHalves_7
def l_law09_LeafHalves_8 : List AOp := [⟨(some 42), .mv (.t 2), none, none, [], none⟩,
  ⟨(some 43), .mv (.t 0), none, none, [], none⟩,
  ⟨(some 44), .len (.t 43), none, none, [], none⟩,
  ⟨(some 45), .bin .sub (.t 44) (.k (.int .i64 1)), none, none, [], none⟩,
  ⟨(some 46), .bin .rem (.t 42) (.t 45), none, none, [], none⟩,
  ⟨(some 47), .mv (.t 0), none, none, [], none⟩,
  ⟨(some 48), .len (.t 47), none, none, [], none⟩,
  ⟨(some 49), .bin .add (.t 46) (.t 48), none, none, [], none⟩,
  ⟨(some 50), .bin .sub (.t 49) (.k (.int .i64 1)), none, none, [], none⟩,
  ⟨(some 51), .mv (.t 0), none, none, [], none⟩,
  ⟨(some 52), .len (.t 51), none, none, [], none⟩,
  ⟨(some 53), .bin .sub (.t 52) (.k (.int .i64 1)), none, none, [], none⟩,
  ⟨(some 54), .bin .rem (.t 50) (.t 53), none, none, [], none⟩,
  ⟨(some 55), .bin .add (.k (.int .i64 1)) (.t 54), none, none, [], none⟩,
  ⟨(some 9), .mv (.t 55), none, none, [], none⟩]
def ac_law09_LeafHalves_8 : AC := .reg l_law09_LeafHalves_8
def l_law09_LeafHalves_9 : List AOp := [⟨(some 57), .mv (.t 0), none, none, [], none⟩,
  ⟨(some 58), .mv (.t 9), none, none, [], none⟩,
  ⟨(some 59), .ssl 4 (.t 57) none (some (.t 58)), none, none, [], none⟩,
  ⟨(some 60), .call false 10 [(.t 59)], none, none, [], none⟩,
  ⟨(some 56), .mv (.t 60), none, none, [], none⟩,
  ⟨(some 61), .ext 0 (.t 56), none, none, [], none⟩,
  ⟨(some 62), .ext 1 (.t 56), none, none, [], none⟩,
  ⟨(some 10), .mv (.t 61), none, none, [], none⟩,
  ⟨(some 11), .mv (.t 62), none, none, [], none⟩]
def ac_law09_LeafHalves_9 : AC := .reg l_law09_LeafHalves_9
def l_law09_LeafHalves_10 : List AOp := [⟨(some 64), .mv (.t 0), none, none, [], none⟩,
  ⟨(some 65), .mv (.t 9), none, none, [], none⟩,
  ⟨(some 66), .ssl 4 (.t 64) (some (.t 65)) none, none, none, [], none⟩,
  ⟨(some 67), .call false 10 [(.t 66)], none, none, [], none⟩,
  ⟨(some 63), .mv (.t 67), none, none, [], none⟩,
  ⟨(some 68), .ext 0 (.t 63), none, none, [], none⟩,
  ⟨(some 69), .ext 1 (.t 63), none, none, [], none⟩,
  ⟨(some 12), .mv (.t 68), none, none, [], none⟩,
  ⟨(some 13), .mv (.t 69), none, none, [], none⟩]
def ac_law09_LeafHalves_10 : AC := .reg l_law09_LeafHalves_10
def l_law09_LeafHalves_11 : List AOp := [⟨(some 70), .mv (.t 11), none, none, [], none⟩,
  ⟨(some 71), .bin .neq (.t 70) (.k (.int .i64 0)), none, none, [], none⟩,
  ⟨(some 72), .mv (.t 71), none, none, [], none⟩,
  ⟨(some 73), .mv (.t 13), (some (72, false)), none, [], none⟩,
  ⟨(some 74), .bin .neq (.t 73) (.k (.int .i64 0)), (some (72, false)), none, [], none⟩,
  ⟨(some 75), .pick (.t 72) (.k (.bool true)) (.t 74), none, none, [], none⟩]
def ac_law09_LeafHalves_11 : AC := .reg l_law09_LeafHalves_11
def l_law09_LeafHalves_12 : List AOp := [⟨(some 6), .mv (.k (.bool false)), none, none, [], none⟩]
def ac_law09_LeafHalves_12 : AC := .reg l_law09_LeafHalves_12
def ac_law09_LeafHalves_13 : AC := .seq ac_law09_LeafHalves_12 .ret
def ac_law09_LeafHalves_14 : AC := .cond (.t 75) ac_law09_LeafHalves_13 .skip
def ac_law09_LeafHalves_15 : AC := .seq ac_law09_LeafHalves_11 ac_law09_LeafHalves_14
def ac_law09_LeafHalves_16 : AC := .seq ac_law09_LeafHalves_10 ac_law09_LeafHalves_15
def ac_law09_LeafHalves_17 : AC := .seq ac_law09_LeafHalves_9 ac_law09_LeafHalves_16
def ac_law09_LeafHalves_18 : AC := .seq ac_law09_LeafHalves_8 ac_law09_LeafHalves_17
def ac_law09_LeafHalves_19 : AC := .cond (.t 41) ac_law09_LeafHalves_18 .skip
def ac_law09_LeafHalves_20 : AC := .seq ac_law09_LeafHalves_7 ac_law09_LeafHalves_19
def ac_law09_LeafHalves_21 : AC := .seq ac_law09_LeafHalves_6 ac_law09_LeafHalves_20
def l_law09_LeafHalves_22 : List AOp := [⟨(some 77), .mv (.t 1), none, none, [], none⟩,
  ⟨(some 78), .call false 20 [(.t 77)], none, none, [], none⟩,
  ⟨(some 76), .mv (.t 78), none, none, [], none⟩,
  ⟨(some 79), .ext 0 (.t 76), none, none, [], none⟩,
  ⟨(some 80), .ext 1 (.t 76), none, none, [], none⟩,
  ⟨(some 14), .mv (.t 79), none, none, [], none⟩,
  ⟨(some 15), .mv (.t 80), none, none, [], none⟩]
def ac_law09_LeafHalves_22 : AC := .reg l_law09_LeafHalves_22
def l_law09_LeafHalves_23 : List AOp := [⟨(some 81), .mv (.t 15), none, none, [], none⟩,
  ⟨(some 82), .bin .eql (.t 81) (.k (.int .i64 0)), none, none, [], none⟩,
  ⟨(some 83), .mv (.t 82), none, none, [], none⟩,
  ⟨(some 84), .mv (.t 1), (some (83, true)), none, [], none⟩,
  ⟨(some 85), .len (.t 84), (some (83, true)), none, [], none⟩,
  ⟨(some 86), .bin .gtr (.t 85) (.k (.int .i64 3)), (some (83, true)), none, [], none⟩,
  ⟨(some 87), .pick (.t 83) (.t 86) (.k (.bool false)), none, none, [], none⟩]
def ac_law09_LeafHalves_23 : AC := .reg l_law09_LeafHalves_23
def l_law09_LeafHalves_24 : List AOp := [⟨(some 88), .mv (.t 2), none, none, [], none⟩,
  ⟨(some 89), .mv (.t 1), none, none, [], none⟩,
  ⟨(some 90), .len (.t 89), none, none, [], none⟩,
  ⟨(some 91), .bin .sub (.t 90) (.k (.int .i64 3)), none, none, [], none⟩,
  ⟨(some 92), .bin .rem (.t 88) (.t 91), none, none, [], none⟩,
  ⟨(some 93), .mv (.t 1), none, none, [], none⟩,
  ⟨(some 94), .len (.t 93), none, none, [], none⟩,
  ⟨(some 95), .bin .add (.t 92) (.t 94), none, none, [], none⟩,
  ⟨(some 96), .bin .sub (.t 95) (.k (.int .i64 3)), none, none, [], none⟩,
  ⟨(some 97), .mv (.t 1), none, none, [], none⟩,
  ⟨(some 98), .len (.t 97), none, none, [], none⟩,
  ⟨(some 99), .bin .sub (.t 98) (.k (.int .i64 3)), none, none, [], none⟩,
  ⟨(some 100), .bin .rem (.t 96) (.t 99), none, none, [], none⟩,
  ⟨(some 101), .bin .add (.k (.int .i64 2)) (.t 100), none, none, [], none⟩,
  ⟨(some 16), .mv (.t 101), none, none, [], none⟩]
def ac_law09_LeafHalves_24 : AC := .reg l_law09_LeafHalves_24
def l_law09_LeafHalves_25 : List AOp := [⟨(some 103), .mv (.t 1), none, none, [], none⟩,
  ⟨(some 104), .mv (.t 16), none, none, [], none⟩,
  ⟨(some 105), .ssl 2 (.t 103) none (some (.t 104)), none, none, [], none⟩,
  ⟨(some 106), .call false 20 [(.t 105)], none, none, [], none⟩,
  ⟨(some 102), .mv (.t 106), none, none, [], none⟩,
  ⟨(some 107), .ext 0 (.t 102), none, none, [], none⟩,
  ⟨(some 108), .ext 1 (.t 102), none, none, [], none⟩,
  ⟨(some 17), .mv (.t 107), none, none, [], none⟩,
  ⟨(some 18), .mv (.t 108), none, none, [], none⟩]
def ac_law09_LeafHalves_25 : AC := .reg l_law09_LeafHalves_25
def l_law09_LeafHalves_26 : List AOp := [⟨(some 110), .mv (.t 1), none, none, [], none⟩,
  ⟨(some 111), .mv (.t 16), none, none, [], none⟩,
  ⟨(some 112), .ssl 2 (.t 110) (some (.t 111)) none, none, none, [], none⟩,
  ⟨(some 113), .call false 20 [(.t 112)], none, none, [], none⟩,
  ⟨(some 109), .mv (.t 113), none, none, [], none⟩,
  ⟨(some 114), .ext 0 (.t 109), none, none, [], none⟩,
  ⟨(some 115), .ext 1 (.t 109), none, none, [], none⟩,
  ⟨(some 19), .mv (.t 114), none, none, [], none⟩,
  ⟨(some 20), .mv (.t 115), none, none, [], none⟩]
def ac_law09_LeafHalves_26 : AC := .reg l_law09_LeafHalves_26
def l_law09_LeafHalves_27 : List AOp := [⟨(some 116), .mv (.t 18), none, none, [], none⟩,
  ⟨(some 117), .bin .neq (.t 116) (.k (.int .i64 0)), none, none, [], none⟩,
  ⟨(some 118), .mv (.t 117), none, none, [], none⟩,
  ⟨(some 119), .mv (.t 20), (some (118, false)), none, [], none⟩,
  ⟨(some 120), .bin .neq (.t 119) (.k (.int .i64 0)), (some (118, false)), none, [], none⟩,
  ⟨(some 121), .pick (.t 118) (.k (.bool true)) (.t 120), none, none, [], none⟩]
def ac_law09_LeafHalves_27 : AC := .reg l_law09_LeafHalves_27
def l_law09_LeafHalves_28 : List AOp := [⟨(some 6), .mv (.k (.bool false)), none, none, [], none⟩]
def ac_law09_LeafHalves_28 : AC := .reg l_law09_LeafHalves_28
def ac_law09_LeafHalves_29 : AC := .seq ac_law09_LeafHalves_28 .ret
def ac_law09_LeafHalves_30 : AC := .cond (.t 121) ac_law09_LeafHalves_29 .skip
def ac_law09_LeafHalves_31 : AC := .seq ac_law09_LeafHalves_27 ac_law09_LeafHalves_30
def ac_law09_LeafHalves_32 : AC := .seq ac_law09_LeafHalves_26 ac_law09_LeafHalves_31
def ac_law09_LeafHalves_33 : AC := .seq ac_law09_LeafHalves_25 ac_law09_LeafHalves_32
def ac_law09_LeafHalves_34 : AC := .seq ac_law09_LeafHalves_24 ac_law09_LeafHalves_33
def ac_law09_LeafHalves_35 : AC := .cond (.t 87) ac_law09_LeafHalves_34 .skip
def ac_law09_LeafHalves_36 : AC := .seq ac_law09_LeafHalves_23 ac_law09_LeafHalves_35
def ac_law09_LeafHalves_37 : AC := .seq ac_law09_LeafHalves_22 ac_law09_LeafHalves_36
def l_law09_LeafHalves_38 : List AOp := [⟨(some 122), .call false 9 [], none, none, [], none⟩,
  ⟨(some 6), .mv (.t 122), none, none, [], none⟩]
def ac_law09_LeafHalves_38 : AC := .reg l_law09_LeafHalves_38
def ac_law09_LeafHalves_39 : AC := .seq ac_law09_LeafHalves_38 .ret
def ac_law09_LeafHalves_40 : AC := .seq ac_law09_LeafHalves_37 ac_law09_LeafHalves_39
def ac_law09_LeafHalves_41 : AC := .seq ac_law09_LeafHalves_21 ac_law09_LeafHalves_40
def ac_law09_LeafHalves_42 : AC := .seq ac_law09_LeafHalves_5 ac_law09_LeafHalves_41
def ac_law09_LeafHalves_43 : AC := .seq ac_law09_LeafHalves_0 ac_law09_LeafHalves_42
def ac_law09_LeafHalves : AC := ac_law09_LeafHalves_43
theorem comp_law09_LeafHalves : compF Try.prog [] (drawR Try.prog [] Try.f6.ntmps) [] 3 Try.f6 = some (ac_law09_LeafHalves, [.t 6]) := by kernel_rfl
def U_law09_LeafHalves := (And.intro (And.intro (And.intro (And.intro (And.intro (And.intro @ac_law09_LeafHalves.eq_1 (@mR _ _ ac_law09_LeafHalves_0.eq_1)) (And.intro (@mR _ _ ac_law09_LeafHalves_1.eq_1) (@mR _ _ ac_law09_LeafHalves_2.eq_1))) (And.intro (And.intro (@mU _ _ ac_law09_LeafHalves_3.eq_1) (@mU _ _ ac_law09_LeafHalves_4.eq_1)) (And.intro (@mU _ _ ac_law09_LeafHalves_5.eq_1) (@mR _ _ ac_law09_LeafHalves_6.eq_1)))) (And.intro (And.intro (And.intro (@mR _ _ ac_law09_LeafHalves_7.eq_1) (@mR _ _ ac_law09_LeafHalves_8.eq_1)) (And.intro (@mR _ _ ac_law09_LeafHalves_9.eq_1) (@mR _ _ ac_law09_LeafHalves_10.eq_1))) (And.intro (And.intro (@mR _ _ ac_law09_LeafHalves_11.eq_1) (@mR _ _ ac_law09_LeafHalves_12.eq_1)) (And.intro (@mU _ _ ac_law09_LeafHalves_13.eq_1) (@mU _ _ ac_law09_LeafHalves_14.eq_1))))) (And.intro (And.intro (And.intro (And.intro (@mU _ _ ac_law09_LeafHalves_15.eq_1) (@mU _ _ ac_law09_LeafHalves_16.eq_1)) (And.intro (@mU _ _ ac_law09_LeafHalves_17.eq_1) (@mU _ _ ac_law09_LeafHalves_18.eq_1))) (And.intro (And.intro (@mU _ _ ac_law09_LeafHalves_19.eq_1) (@mU _ _ ac_law09_LeafHalves_20.eq_1)) (And.intro (@mU _ _ ac_law09_LeafHalves_21.eq_1) (@mR _ _ ac_law09_LeafHalves_22.eq_1)))) (And.intro (And.intro (And.intro (@mR _ _ ac_law09_LeafHalves_23.eq_1) (@mR _ _ ac_law09_LeafHalves_24.eq_1)) (And.intro (@mR _ _ ac_law09_LeafHalves_25.eq_1) (@mR _ _ ac_law09_LeafHalves_26.eq_1))) (And.intro (And.intro (@mR _ _ ac_law09_LeafHalves_27.eq_1) (@mR _ _ ac_law09_LeafHalves_28.eq_1)) (And.intro (@mU _ _ ac_law09_LeafHalves_29.eq_1) (@mU _ _ ac_law09_LeafHalves_30.eq_1)))))) (And.intro (And.intro (And.intro (And.intro (And.intro (@mU _ _ ac_law09_LeafHalves_31.eq_1) (@mU _ _ ac_law09_LeafHalves_32.eq_1)) (And.intro (@mU _ _ ac_law09_LeafHalves_33.eq_1) (@mU _ _ ac_law09_LeafHalves_34.eq_1))) (And.intro (And.intro (@mU _ _ ac_law09_LeafHalves_35.eq_1) (@mU _ _ ac_law09_LeafHalves_36.eq_1)) (And.intro (@mU _ _ ac_law09_LeafHalves_37.eq_1) (@mR _ _ ac_law09_LeafHalves_38.eq_1)))) (And.intro (And.intro (And.intro (@mU _ _ ac_law09_LeafHalves_39.eq_1) (@mU _ _ ac_law09_LeafHalves_40.eq_1)) (And.intro (@mU _ _ ac_law09_LeafHalves_41.eq_1) (@mU _ _ ac_law09_LeafHalves_42.eq_1))) (And.intro (And.intro (@mU _ _ ac_law09_LeafHalves_43.eq_1) @l_law09_LeafHalves_0.eq_1) (And.intro @l_law09_LeafHalves_1.eq_1 @l_law09_LeafHalves_2.eq_1)))) (And.intro (And.intro (And.intro (And.intro @l_law09_LeafHalves_6.eq_1 @l_law09_LeafHalves_7.eq_1) (And.intro @l_law09_LeafHalves_8.eq_1 @l_law09_LeafHalves_9.eq_1)) (And.intro (And.intro @l_law09_LeafHalves_10.eq_1 @l_law09_LeafHalves_11.eq_1) (And.intro @l_law09_LeafHalves_12.eq_1 @l_law09_LeafHalves_22.eq_1))) (And.intro (And.intro (And.intro @l_law09_LeafHalves_23.eq_1 @l_law09_LeafHalves_24.eq_1) (And.intro @l_law09_LeafHalves_25.eq_1 @l_law09_LeafHalves_26.eq_1)) (And.intro (And.intro @l_law09_LeafHalves_27.eq_1 @l_law09_LeafHalves_28.eq_1) @l_law09_LeafHalves_38.eq_1)))))

/- scoria/scorialaw09.LeafBack -/
def l_law09_LeafBack_0 : List AOp := [⟨(some 6), .mv (.k (.bool false)), none, none, [], none⟩]
def ac_law09_LeafBack_0 : AC := .reg l_law09_LeafBack_0
def l_law09_LeafBack_1 : List AOp := [⟨(some 23), .mv (.t 0), none, none, [], none⟩,
  ⟨(some 24), .len (.t 23), none, none, [], none⟩,
  ⟨(some 25), .bin .gtr (.t 24) (.k (.int .i64 60)), none, none, [], none⟩,
  ⟨(some 26), .mv (.t 25), none, none, [], none⟩,
  ⟨(some 27), .mv (.t 1), (some (26, false)), none, [], none⟩,
  ⟨(some 28), .len (.t 27), (some (26, false)), none, [], none⟩,
  ⟨(some 29), .bin .gtr (.t 28) (.k (.int .i64 60)), (some (26, false)), none, [], none⟩,
  ⟨(some 30), .pick (.t 26) (.k (.bool true)) (.t 29), none, none, [], none⟩,
  ⟨(some 31), .mv (.t 30), none, none, [], none⟩,
  ⟨(some 32), .mv (.t 2), (some (31, false)), none, [], none⟩,
  ⟨(some 33), .lens (.t 32), (some (31, false)), none, [], none⟩,
  ⟨(some 34), .bin .gtr (.t 33) (.k (.int .i64 2000)), (some (31, false)), none, [], none⟩,
  ⟨(some 35), .pick (.t 31) (.k (.bool true)) (.t 34), none, none, [], none⟩]
def ac_law09_LeafBack_1 : AC := .reg l_law09_LeafBack_1
def l_law09_LeafBack_2 : List AOp := [⟨(some 36), .call false 9 [], none, none, [], none⟩,
  ⟨(some 6), .mv (.t 36), none, none, [], none⟩]
def ac_law09_LeafBack_2 : AC := .reg l_law09_LeafBack_2
def ac_law09_LeafBack_3 : AC := .seq ac_law09_LeafBack_2 .ret
def ac_law09_LeafBack_4 : AC := .cond (.t 35) ac_law09_LeafBack_3 .skip
def ac_law09_LeafBack_5 : AC := .seq ac_law09_LeafBack_1 ac_law09_LeafBack_4
def l_law09_LeafBack_6 : List AOp := [⟨(some 38), .mv (.t 0), none, none, [], none⟩,
  ⟨(some 39), .call false 10 [(.t 38)], none, none, [], none⟩,
  ⟨(some 37), .mv (.t 39), none, none, [], none⟩,
  ⟨(some 40), .ext 0 (.t 37), none, none, [], none⟩,
  ⟨(some 41), .ext 1 (.t 37), none, none, [], none⟩,
  ⟨(some 7), .mv (.t 40), none, none, [], none⟩,
  ⟨(some 8), .mv (.t 41), none, none, [], none⟩]
def ac_law09_LeafBack_6 : AC := .reg l_law09_LeafBack_6
def l_law09_LeafBack_7 : List AOp := [⟨(some 42), .mv (.t 8), none, none, [], none⟩,
  ⟨(some 43), .bin .eql (.t 42) (.k (.int .i64 0)), none, none, [], none⟩]
def ac_law09_LeafBack_7 : AC := .reg l_law09_LeafBack_7
def l_law09_LeafBack_8 : List AOp := [⟨(some 45), .mv (.t 7), none, none, [], none⟩,
  ⟨(some 46), .call false 13 [(.t 45)], none, none, [], none⟩,
  ⟨(some 44), .mv (.t 46), none, none, [], none⟩,
  ⟨(some 47), .ext 0 (.t 44), none, none, [], none⟩,
  ⟨(some 48), .ext 1 (.t 44), none, none, [], none⟩,
  ⟨(some 9), .mv (.t 47), none, none, [], none⟩,
  ⟨(some 10), .mv (.t 48), none, none, [], none⟩]
def ac_law09_LeafBack_8 : AC := .reg l_law09_LeafBack_8
def l_law09_LeafBack_9 : List AOp := [⟨(some 49), .mv (.t 10), none, none, [], none⟩,
  ⟨(some 50), .bin .neq (.t 49) (.k (.int .i64 0)), none, none, [], none⟩,
  ⟨(some 51), .mv (.t 50), none, none, [], none⟩,
  ⟨(some 52), .mv (.t 9), (some (51, false)), none, [], none⟩,
  ⟨(some 53), .call false 12 [(.t 52)], (some (51, false)), none, [], none⟩,
  ⟨(some 54), .mv (.t 0), (some (51, false)), none, [], none⟩,
  ⟨(some 55), .call false 12 [(.t 54)], (some (51, false)), none, [], none⟩,
  ⟨(some 56), .call false 17 [(.t 53), (.t 55)], (some (51, false)), none, [], none⟩,
  ⟨(some 57), .un .not (.t 56), (some (51, false)), none, [], none⟩,
  ⟨(some 58), .pick (.t 51) (.k (.bool true)) (.t 57), none, none, [], none⟩]
def ac_law09_LeafBack_9 : AC := .reg l_law09_LeafBack_9
def l_law09_LeafBack_10 : List AOp := [⟨(some 6), .mv (.k (.bool false)), none, none, [], none⟩]
def ac_law09_LeafBack_10 : AC := .reg l_law09_LeafBack_10
def ac_law09_LeafBack_11 : AC := .seq ac_law09_LeafBack_10 .ret
def ac_law09_LeafBack_12 : AC := .cond (.t 58) ac_law09_LeafBack_11 .skip
def ac_law09_LeafBack_13 : AC := .seq ac_law09_LeafBack_9 ac_law09_LeafBack_12
def ac_law09_LeafBack_14 : AC := .seq ac_law09_LeafBack_8 ac_law09_LeafBack_13
def ac_law09_LeafBack_15 : AC := .cond (.t 43) ac_law09_LeafBack_14 .skip
def ac_law09_LeafBack_16 : AC := .seq ac_law09_LeafBack_7 ac_law09_LeafBack_15
def ac_law09_LeafBack_17 : AC := .seq ac_law09_LeafBack_6 ac_law09_LeafBack_16
def l_law09_LeafBack_18 : List AOp := [⟨(some 60), .mv (.t 1), none, none, [], none⟩,
  ⟨(some 61), .call false 20 [(.t 60)], none, none, [], none⟩,
  ⟨(some 59), .mv (.t 61), none, none, [], none⟩,
  ⟨(some 62), .ext 0 (.t 59), none, none, [], none⟩,
  ⟨(some 63), .ext 1 (.t 59), none, none, [], none⟩,
  ⟨(some 11), .mv (.t 62), none, none, [], none⟩,
  ⟨(some 12), .mv (.t 63), none, none, [], none⟩]
def ac_law09_LeafBack_18 : AC := .reg l_law09_LeafBack_18
def l_law09_LeafBack_19 : List AOp := [⟨(some 64), .mv (.t 12), none, none, [], none⟩,
  ⟨(some 65), .bin .eql (.t 64) (.k (.int .i64 0)), none, none, [], none⟩]
def ac_law09_LeafBack_19 : AC := .reg l_law09_LeafBack_19
def l_law09_LeafBack_20 : List AOp := [⟨(some 67), .mv (.t 11), none, none, [], none⟩,
  ⟨(some 68), .call false 15 [(.t 67)], none, none, [], none⟩,
  ⟨(some 66), .mv (.t 68), none, none, [], none⟩,
  ⟨(some 69), .ext 0 (.t 66), none, none, [], none⟩,
  ⟨(some 70), .ext 1 (.t 66), none, none, [], none⟩,
  ⟨(some 13), .mv (.t 69), none, none, [], none⟩,
  ⟨(some 14), .mv (.t 70), none, none, [], none⟩]
def ac_law09_LeafBack_20 : AC := .reg l_law09_LeafBack_20
def l_law09_LeafBack_21 : List AOp := [⟨(some 71), .mv (.t 14), none, none, [], none⟩,
  ⟨(some 72), .bin .neq (.t 71) (.k (.int .i64 0)), none, none, [], none⟩,
  ⟨(some 73), .mv (.t 72), none, none, [], none⟩,
  ⟨(some 74), .mv (.t 13), (some (73, false)), none, [], none⟩,
  ⟨(some 75), .call false 19 [(.t 74)], (some (73, false)), none, [], none⟩,
  ⟨(some 76), .mv (.t 1), (some (73, false)), none, [], none⟩,
  ⟨(some 77), .call false 19 [(.t 76)], (some (73, false)), none, [], none⟩,
  ⟨(some 78), .call false 18 [(.t 75), (.t 77)], (some (73, false)), none, [], none⟩,
  ⟨(some 79), .un .not (.t 78), (some (73, false)), none, [], none⟩,
  ⟨(some 80), .pick (.t 73) (.k (.bool true)) (.t 79), none, none, [], none⟩]
def ac_law09_LeafBack_21 : AC := .reg l_law09_LeafBack_21
def l_law09_LeafBack_22 : List AOp := [⟨(some 6), .mv (.k (.bool false)), none, none, [], none⟩]
def ac_law09_LeafBack_22 : AC := .reg l_law09_LeafBack_22
def ac_law09_LeafBack_23 : AC := .seq ac_law09_LeafBack_22 .ret
def ac_law09_LeafBack_24 : AC := .cond (.t 80) ac_law09_LeafBack_23 .skip
def ac_law09_LeafBack_25 : AC := .seq ac_law09_LeafBack_21 ac_law09_LeafBack_24
def ac_law09_LeafBack_26 : AC := .seq ac_law09_LeafBack_20 ac_law09_LeafBack_25
def ac_law09_LeafBack_27 : AC := .cond (.t 65) ac_law09_LeafBack_26 .skip
def ac_law09_LeafBack_28 : AC := .seq ac_law09_LeafBack_19 ac_law09_LeafBack_27
def ac_law09_LeafBack_29 : AC := .seq ac_law09_LeafBack_18 ac_law09_LeafBack_28
def l_law09_LeafBack_30 : List AOp := [⟨(some 82), .mv (.t 2), none, none, [], none⟩,
  ⟨(some 83), .call false 13 [(.t 82)], none, none, [], none⟩,
  ⟨(some 81), .mv (.t 83), none, none, [], none⟩,
  ⟨(some 84), .ext 0 (.t 81), none, none, [], none⟩,
  ⟨(some 85), .ext 1 (.t 81), none, none, [], none⟩,
  ⟨(some 15), .mv (.t 84), none, none, [], none⟩,
  ⟨(some 16), .mv (.t 85), none, none, [], none⟩]
def ac_law09_LeafBack_30 : AC := .reg l_law09_LeafBack_30
def l_law09_LeafBack_31 : List AOp := [⟨(some 87), .mv (.t 15), none, none, [], none⟩,
  ⟨(some 88), .call false 10 [(.t 87)], none, none, [], none⟩,
  ⟨(some 86), .mv (.t 88), none, none, [], none⟩,
  ⟨(some 89), .ext 0 (.t 86), none, none, [], none⟩,
  ⟨(some 90), .ext 1 (.t 86), none, none, [], none⟩,
  ⟨(some 17), .mv (.t 89), none, none, [], none⟩,
  ⟨(some 18), .mv (.t 90), none, none, [], none⟩]
def ac_law09_LeafBack_31 : AC := .reg l_law09_LeafBack_31
def l_law09_LeafBack_32 : List AOp := [⟨(some 92), .mv (.t 2), none, none, [], none⟩,
  ⟨(some 93), .call false 15 [(.t 92)], none, none, [], none⟩,
  ⟨(some 91), .mv (.t 93), none, none, [], none⟩,
  ⟨(some 94), .ext 0 (.t 91), none, none, [], none⟩,
  ⟨(some 95), .ext 1 (.t 91), none, none, [], none⟩,
  ⟨(some 19), .mv (.t 94), none, none, [], none⟩,
  ⟨(some 20), .mv (.t 95), none, none, [], none⟩]
def ac_law09_LeafBack_32 : AC := .reg l_law09_LeafBack_32
def l_law09_LeafBack_33 : List AOp := [⟨(some 97), .mv (.t 19), none, none, [], none⟩,
  ⟨(some 98), .call false 20 [(.t 97)], none, none, [], none⟩,
  ⟨(some 96), .mv (.t 98), none, none, [], none⟩,
  ⟨(some 99), .ext 0 (.t 96), none, none, [], none⟩,
  ⟨(some 100), .ext 1 (.t 96), none, none, [], none⟩,
  ⟨(some 21), .mv (.t 99), none, none, [], none⟩,
  ⟨(some 22), .mv (.t 100), none, none, [], none⟩]
def ac_law09_LeafBack_33 : AC := .reg l_law09_LeafBack_33
def l_law09_LeafBack_34 : List AOp := [⟨(some 101), .call false 9 [], none, none, [], none⟩,
  ⟨(some 102), .mv (.t 101), none, none, [], none⟩,
  ⟨(some 103), .mv (.t 16), (some (102, true)), none, [], none⟩,
  ⟨(some 104), .bin .neq (.t 103) (.k (.int .i64 0)), (some (102, true)), none, [], none⟩,
  ⟨(some 105), .mv (.t 104), (some (102, true)), none, [], none⟩,
  ⟨(some 106), .mv (.t 18), (some (105, false)), none, [], none⟩,
  ⟨(some 107), .bin .eql (.t 106) (.k (.int .i64 0)), (some (105, false)), none, [], none⟩,
  ⟨(some 108), .mv (.t 107), (some (105, false)), none, [], none⟩,
  ⟨(some 109), .mv (.t 17), (some (108, true)), none, [], none⟩,
  ⟨(some 110), .mv (.t 2), (some (108, true)), none, [], none⟩,
  ⟨(some 111), .bin .eql (.t 109) (.t 110), (some (108, true)), none, [], none⟩,
  ⟨(some 112), .pick (.t 108) (.t 111) (.k (.bool false)), (some (105, false)), none, [], none⟩,
  ⟨(some 113), .pick (.t 105) (.k (.bool true)) (.t 112), (some (102, true)), none, [], none⟩,
  ⟨(some 114), .pick (.t 102) (.t 113) (.k (.bool false)), none, none, [], none⟩,
  ⟨(some 115), .mv (.t 114), none, none, [], none⟩,
  ⟨(some 116), .mv (.t 20), (some (115, true)), none, [], none⟩,
  ⟨(some 117), .bin .neq (.t 116) (.k (.int .i64 0)), (some (115, true)), none, [], none⟩,
  ⟨(some 118), .mv (.t 117), (some (115, true)), none, [], none⟩,
  ⟨(some 119), .mv (.t 22), (some (118, false)), none, [], none⟩,
  ⟨(some 120), .bin .eql (.t 119) (.k (.int .i64 0)), (some (118, false)), none, [], none⟩,
  ⟨(some 121), .mv (.t 120), (some (118, false)), none, [], none⟩,
  ⟨(some 122), .mv (.t 21), (some (121, true)), none, [], none⟩,
  ⟨(some 123), .mv (.t 2), (some (121, true)), none, [], none⟩,
  ⟨(some 124), .bin .eql (.t 122) (.t 123), (some (121, true)), none, [], none⟩,
  ⟨(some 125), .pick (.t 121) (.t 124) (.k (.bool false)), (some (118, false)), none, [], none⟩,
  ⟨(some 126), .pick (.t 118) (.k (.bool true)) (.t 125), (some (115, true)), none, [], none⟩,
  ⟨(some 127), .pick (.t 115) (.t 126) (.k (.bool false)), none, none, [], none⟩,
  ⟨(some 6), .mv (.t 127), none, none, [], none⟩]
def ac_law09_LeafBack_34 : AC := .reg l_law09_LeafBack_34
def ac_law09_LeafBack_35 : AC := .seq ac_law09_LeafBack_34 .ret
def ac_law09_LeafBack_36 : AC := .seq ac_law09_LeafBack_33 ac_law09_LeafBack_35
def ac_law09_LeafBack_37 : AC := .seq ac_law09_LeafBack_32 ac_law09_LeafBack_36
def ac_law09_LeafBack_38 : AC := .seq ac_law09_LeafBack_31 ac_law09_LeafBack_37
def ac_law09_LeafBack_39 : AC := .seq ac_law09_LeafBack_30 ac_law09_LeafBack_38
def ac_law09_LeafBack_40 : AC := .seq ac_law09_LeafBack_29 ac_law09_LeafBack_39
def ac_law09_LeafBack_41 : AC := .seq ac_law09_LeafBack_17 ac_law09_LeafBack_40
def ac_law09_LeafBack_42 : AC := .seq ac_law09_LeafBack_5 ac_law09_LeafBack_41
def ac_law09_LeafBack_43 : AC := .seq ac_law09_LeafBack_0 ac_law09_LeafBack_42
def ac_law09_LeafBack : AC := ac_law09_LeafBack_43
theorem comp_law09_LeafBack : compF Try.prog [] (drawR Try.prog [] Try.f7.ntmps) [] 3 Try.f7 = some (ac_law09_LeafBack, [.t 6]) := by kernel_rfl
def U_law09_LeafBack := (And.intro (And.intro (And.intro (And.intro (And.intro (And.intro @ac_law09_LeafBack.eq_1 (@mR _ _ ac_law09_LeafBack_0.eq_1)) (And.intro (@mR _ _ ac_law09_LeafBack_1.eq_1) (@mR _ _ ac_law09_LeafBack_2.eq_1))) (And.intro (And.intro (@mU _ _ ac_law09_LeafBack_3.eq_1) (@mU _ _ ac_law09_LeafBack_4.eq_1)) (And.intro (@mU _ _ ac_law09_LeafBack_5.eq_1) (@mR _ _ ac_law09_LeafBack_6.eq_1)))) (And.intro (And.intro (And.intro (@mR _ _ ac_law09_LeafBack_7.eq_1) (@mR _ _ ac_law09_LeafBack_8.eq_1)) (And.intro (@mR _ _ ac_law09_LeafBack_9.eq_1) (@mR _ _ ac_law09_LeafBack_10.eq_1))) (And.intro (And.intro (@mU _ _ ac_law09_LeafBack_11.eq_1) (@mU _ _ ac_law09_LeafBack_12.eq_1)) (And.intro (@mU _ _ ac_law09_LeafBack_13.eq_1) (@mU _ _ ac_law09_LeafBack_14.eq_1))))) (And.intro (And.intro (And.intro (And.intro (@mU _ _ ac_law09_LeafBack_15.eq_1) (@mU _ _ ac_law09_LeafBack_16.eq_1)) (And.intro (@mU _ _ ac_law09_LeafBack_17.eq_1) (@mR _ _ ac_law09_LeafBack_18.eq_1))) (And.intro (And.intro (@mR _ _ ac_law09_LeafBack_19.eq_1) (@mR _ _ ac_law09_LeafBack_20.eq_1)) (And.intro (@mR _ _ ac_law09_LeafBack_21.eq_1) (@mR _ _ ac_law09_LeafBack_22.eq_1)))) (And.intro (And.intro (And.intro (@mU _ _ ac_law09_LeafBack_23.eq_1) (@mU _ _ ac_law09_LeafBack_24.eq_1)) (And.intro (@mU _ _ ac_law09_LeafBack_25.eq_1) (@mU _ _ ac_law09_LeafBack_26.eq_1))) (And.intro (And.intro (@mU _ _ ac_law09_LeafBack_27.eq_1) (@mU _ _ ac_law09_LeafBack_28.eq_1)) (And.intro (@mU _ _ ac_law09_LeafBack_29.eq_1) (@mR _ _ ac_law09_LeafBack_30.eq_1)))))) (And.intro (And.intro (And.intro (And.intro (And.intro (@mR _ _ ac_law09_LeafBack_31.eq_1) (@mR _ _ ac_law09_LeafBack_32.eq_1)) (And.intro (@mR _ _ ac_law09_LeafBack_33.eq_1) (@mR _ _ ac_law09_LeafBack_34.eq_1))) (And.intro (And.intro (@mU _ _ ac_law09_LeafBack_35.eq_1) (@mU _ _ ac_law09_LeafBack_36.eq_1)) (And.intro (@mU _ _ ac_law09_LeafBack_37.eq_1) (@mU _ _ ac_law09_LeafBack_38.eq_1)))) (And.intro (And.intro (And.intro (@mU _ _ ac_law09_LeafBack_39.eq_1) (@mU _ _ ac_law09_LeafBack_40.eq_1)) (And.intro (@mU _ _ ac_law09_LeafBack_41.eq_1) (@mU _ _ ac_law09_LeafBack_42.eq_1))) (And.intro (And.intro (@mU _ _ ac_law09_LeafBack_43.eq_1) @l_law09_LeafBack_0.eq_1) (And.intro @l_law09_LeafBack_1.eq_1 @l_law09_LeafBack_2.eq_1)))) (And.intro (And.intro (And.intro (And.intro @l_law09_LeafBack_6.eq_1 @l_law09_LeafBack_7.eq_1) (And.intro @l_law09_LeafBack_8.eq_1 @l_law09_LeafBack_9.eq_1)) (And.intro (And.intro @l_law09_LeafBack_10.eq_1 @l_law09_LeafBack_18.eq_1) (And.intro @l_law09_LeafBack_19.eq_1 @l_law09_LeafBack_20.eq_1))) (And.intro (And.intro (And.intro @l_law09_LeafBack_21.eq_1 @l_law09_LeafBack_22.eq_1) (And.intro @l_law09_LeafBack_30.eq_1 @l_law09_LeafBack_31.eq_1)) (And.intro (And.intro @l_law09_LeafBack_32.eq_1 @l_law09_LeafBack_33.eq_1) @l_law09_LeafBack_34.eq_1)))))

/- scoria/scorialaw09.LeafUnder -/
def l_law09_LeafUnder_0 : List AOp := [⟨(some 4), .mv (.k (.bool false)), none, none, [], none⟩]
def ac_law09_LeafUnder_0 : AC := .reg l_law09_LeafUnder_0
def l_law09_LeafUnder_1 : List AOp := [⟨(some 5), .mv (.t 0), none, none, [], none⟩,
  ⟨(some 6), .len (.t 5), none, none, [], none⟩,
  ⟨(some 7), .bin .gtr (.t 6) (.k (.int .i64 300)), none, none, [], none⟩]
def ac_law09_LeafUnder_1 : AC := .reg l_law09_LeafUnder_1
def l_law09_LeafUnder_2 : List AOp := [⟨(some 8), .call false 9 [], none, none, [], none⟩,
  ⟨(some 4), .mv (.t 8), none, none, [], none⟩]
def ac_law09_LeafUnder_2 : AC := .reg l_law09_LeafUnder_2
def ac_law09_LeafUnder_3 : AC := .seq ac_law09_LeafUnder_2 .ret
def ac_law09_LeafUnder_4 : AC := .cond (.t 7) ac_law09_LeafUnder_3 .skip
def ac_law09_LeafUnder_5 : AC := .seq ac_law09_LeafUnder_1 ac_law09_LeafUnder_4
def l_law09_LeafUnder_6 : List AOp := [⟨(some 9), .call false 9 [], none, none, [], none⟩,
  ⟨(some 10), .mv (.t 9), none, none, [], none⟩,
  ⟨(some 11), .mv (.t 0), (some (10, true)), none, [], none⟩,
  ⟨(some 12), .mv (.t 1), (some (10, true)), none, [], none⟩,
  ⟨(some 13), .call false 22 [(.t 11), (.t 12)], (some (10, true)), none, [], none⟩,
  ⟨(some 14), .mv (.t 0), (some (10, true)), none, [], none⟩,
  ⟨(some 15), .call false 19 [(.t 14)], (some (10, true)), none, [], none⟩,
  ⟨(some 16), .mv (.t 1), (some (10, true)), none, [], none⟩,
  ⟨(some 17), .call false 23 [(.t 15), (.t 16)], (some (10, true)), none, [], none⟩,
  ⟨(some 18), .bin .eql (.t 13) (.t 17), (some (10, true)), none, [], none⟩,
  ⟨(some 19), .pick (.t 10) (.t 18) (.k (.bool false)), none, none, [], none⟩,
  ⟨(some 4), .mv (.t 19), none, none, [], none⟩]
def ac_law09_LeafUnder_6 : AC := .reg l_law09_LeafUnder_6
def ac_law09_LeafUnder_7 : AC := .seq ac_law09_LeafUnder_6 .ret
def ac_law09_LeafUnder_8 : AC := .seq ac_law09_LeafUnder_5 ac_law09_LeafUnder_7
def ac_law09_LeafUnder_9 : AC := .seq ac_law09_LeafUnder_0 ac_law09_LeafUnder_8
def ac_law09_LeafUnder : AC := ac_law09_LeafUnder_9
theorem comp_law09_LeafUnder : compF Try.prog [] (drawR Try.prog [] Try.f8.ntmps) [] 2 Try.f8 = some (ac_law09_LeafUnder, [.t 4]) := by kernel_rfl
def U_law09_LeafUnder := (And.intro (And.intro (And.intro (And.intro @ac_law09_LeafUnder.eq_1 (@mR _ _ ac_law09_LeafUnder_0.eq_1)) (And.intro (@mR _ _ ac_law09_LeafUnder_1.eq_1) (@mR _ _ ac_law09_LeafUnder_2.eq_1))) (And.intro (And.intro (@mU _ _ ac_law09_LeafUnder_3.eq_1) (@mU _ _ ac_law09_LeafUnder_4.eq_1)) (And.intro (@mU _ _ ac_law09_LeafUnder_5.eq_1) (@mR _ _ ac_law09_LeafUnder_6.eq_1)))) (And.intro (And.intro (And.intro (@mU _ _ ac_law09_LeafUnder_7.eq_1) (@mU _ _ ac_law09_LeafUnder_8.eq_1)) (And.intro (@mU _ _ ac_law09_LeafUnder_9.eq_1) @l_law09_LeafUnder_0.eq_1)) (And.intro (And.intro @l_law09_LeafUnder_1.eq_1 @l_law09_LeafUnder_2.eq_1) @l_law09_LeafUnder_6.eq_1)))

/- scoria/scorialaw09.awake -/
def l_law09_awake_0 : List AOp := [⟨(some 0), .mv (.k (.bool false)), none, none, [], none⟩]
def ac_law09_awake_0 : AC := .reg l_law09_awake_0
def l_law09_awake_1 : List AOp := [⟨(some 6), .build [(.int .i64 0), (.int .i64 0), (.int .i64 0), (.int .i64 0)] [(0, 1, (.k (.int .i64 3))), (1, 1, (.k (.int .i64 2))), (2, 1, (.k (.int .i64 2))), (3, 1, (.k (.int .i64 7)))], none, none, [], none⟩,
  ⟨(some 7), .blds false [(.int .i64 0), (.int .i64 0), (.int .i64 0), (.int .i64 0)] 1 [(0, (.t 6))], none, none, [], none⟩,
  ⟨(some 8), .call false 10 [(.t 7)], none, none, [], none⟩,
  ⟨(some 5), .mv (.t 8), none, none, [], none⟩,
  ⟨(some 9), .ext 0 (.t 5), none, none, [], none⟩,
  ⟨(some 10), .ext 1 (.t 5), none, none, [], none⟩,
  ⟨(some 1), .mv (.t 9), none, none, [], none⟩,
  ⟨(some 2), .mv (.t 10), none, none, [], none⟩]
def ac_law09_awake_1 : AC := .reg l_law09_awake_1
def l_law09_awake_2 : List AOp := [⟨(some 12), .call false 15 [(.k (.str [2, 0, 0, 0, 5, 0, 9, 0, 0, 6, 0]))], none, none, [], none⟩,
  ⟨(some 11), .mv (.t 12), none, none, [], none⟩,
  ⟨(some 13), .ext 0 (.t 11), none, none, [], none⟩,
  ⟨(some 14), .ext 1 (.t 11), none, none, [], none⟩,
  ⟨(some 3), .mv (.t 13), none, none, [], none⟩,
  ⟨(some 4), .mv (.t 14), none, none, [], none⟩]
def ac_law09_awake_2 : AC := .reg l_law09_awake_2
def l_law09_awake_3 : List AOp := [⟨(some 15), .mv (.t 1), none, none, [], none⟩,
  ⟨(some 16), .bin .eql (.t 15) (.k (.str [1, 3, 0, 0, 2, 0, 0, 0, 2, 7, 0])), none, none, [], none⟩,
  ⟨(some 17), .mv (.t 16), none, none, [], none⟩,
  ⟨(some 18), .mv (.t 2), (some (17, true)), none, [], none⟩,
  ⟨(some 19), .bin .eql (.t 18) (.k (.int .i64 0)), (some (17, true)), none, [], none⟩,
  ⟨(some 20), .pick (.t 17) (.t 19) (.k (.bool false)), none, none, [], none⟩,
  ⟨(some 21), .mv (.t 20), none, none, [], none⟩,
  ⟨(some 22), .mv (.t 4), (some (21, true)), none, [], none⟩,
  ⟨(some 23), .bin .eql (.t 22) (.k (.int .i64 0)), (some (21, true)), none, [], none⟩,
  ⟨(some 24), .pick (.t 21) (.t 23) (.k (.bool false)), none, none, [], none⟩,
  ⟨(some 25), .mv (.t 24), none, none, [], none⟩,
  ⟨(some 26), .mv (.t 3), (some (25, true)), none, [], none⟩,
  ⟨(some 27), .len (.t 26), (some (25, true)), none, [], none⟩,
  ⟨(some 28), .bin .eql (.t 27) (.k (.int .i64 2)), (some (25, true)), none, [], none⟩,
  ⟨(some 29), .pick (.t 25) (.t 28) (.k (.bool false)), none, none, [], none⟩,
  ⟨(some 30), .mv (.t 29), none, none, [], none⟩,
  ⟨(some 31), .mv (.t 3), (some (30, true)), none, [], none⟩,
  ⟨(some 32), .isl 2 (.t 31) (.k (.int .i64 1)), (some (30, true)), none, [], none⟩,
  ⟨(some 33), .load (some 2) (.t 32), (some (30, true)), none, [], none⟩,
  ⟨(some 34), .build [(.int .i64 0), (.int .i64 0)] [(0, 1, (.k (.int .i64 9))), (1, 1, (.k (.int .i64 6)))], (some (30, true)), none, [], none⟩,
  ⟨(some 35), .eqs false [.i, .i] (.t 33) (.t 34), (some (30, true)), none, [], none⟩,
  ⟨(some 36), .pick (.t 30) (.t 35) (.k (.bool false)), none, none, [], none⟩,
  ⟨(some 0), .mv (.t 36), none, none, [], none⟩]
def ac_law09_awake_3 : AC := .reg l_law09_awake_3
def ac_law09_awake_4 : AC := .seq ac_law09_awake_3 .ret
def ac_law09_awake_5 : AC := .seq ac_law09_awake_2 ac_law09_awake_4
def ac_law09_awake_6 : AC := .seq ac_law09_awake_1 ac_law09_awake_5
def ac_law09_awake_7 : AC := .seq ac_law09_awake_0 ac_law09_awake_6
def ac_law09_awake : AC := ac_law09_awake_7
theorem comp_law09_awake : compF Try.prog [] (drawR Try.prog [] Try.f9.ntmps) [] 0 Try.f9 = some (ac_law09_awake, [.t 0]) := by kernel_rfl
def U_law09_awake := (And.intro (And.intro (And.intro (And.intro @ac_law09_awake.eq_1 (@mR _ _ ac_law09_awake_0.eq_1)) (And.intro (@mR _ _ ac_law09_awake_1.eq_1) (@mR _ _ ac_law09_awake_2.eq_1))) (And.intro (And.intro (@mR _ _ ac_law09_awake_3.eq_1) (@mU _ _ ac_law09_awake_4.eq_1)) (@mU _ _ ac_law09_awake_5.eq_1))) (And.intro (And.intro (And.intro (@mU _ _ ac_law09_awake_6.eq_1) (@mU _ _ ac_law09_awake_7.eq_1)) @l_law09_awake_0.eq_1) (And.intro (And.intro @l_law09_awake_1.eq_1 @l_law09_awake_2.eq_1) @l_law09_awake_3.eq_1)))

/- scoria/scorialaw09.refs -/
def l_law09_refs_0 : List AOp := [⟨(some 2), .mv (.k (.slc [])), none, none, [], none⟩]
def ac_law09_refs_0 : AC := .reg l_law09_refs_0
def l_law09_refs_1 : List AOp := [⟨(some 3), .nilown 2, none, none, [], none⟩]
def ac_law09_refs_1 : AC := .reg l_law09_refs_1
def l_law09_refs_2 : List AOp := [⟨(some 4), .mv (.k (.int .i64 0)), none, none, [], none⟩]
def ac_law09_refs_2 : AC := .reg l_law09_refs_2
def l_law09_refs_3 : List AOp := [⟨(some 5), .mv (.t 4), none, none, [], none⟩,
  ⟨(some 6), .mv (.t 0), none, none, [], none⟩,
  ⟨(some 7), .len (.t 6), none, none, [], none⟩,
  ⟨(some 8), .bin .lss (.t 5) (.t 7), none, none, [], none⟩]
def ac_law09_refs_3 : AC := .reg l_law09_refs_3
def ac_law09_refs_4 : AC := .cond (.t 8) .skip (.exit 0)
def ac_law09_refs_5 : AC := .seq ac_law09_refs_3 ac_law09_refs_4
def l_law09_refs_6 : List AOp := [⟨(some 11), .mv (.t 3), none, none, [], none⟩,
  ⟨(some 12), .mv (.t 0), none, none, [], none⟩,
  ⟨(some 13), .mv (.t 4), none, none, [], none⟩,
  ⟨(some 14), .isl 2 (.t 12) (.t 13), none, none, [], none⟩,
  ⟨(some 15), .load (some 2) (.t 14), none, none, [], none⟩,
  ⟨(some 16), .blds false [(.int .i64 0), (.int .i64 0)] 1 [(0, (.t 15))], none, none, [], none⟩,
  ⟨(some 17), .app 2 16 [(.int .i64 0), (.int .i64 0)] (.t 11) (.t 16), none, none, [], none⟩,
  ⟨(some 3), .mv (.t 17), none, none, [], none⟩]
def ac_law09_refs_6 : AC := .reg l_law09_refs_6
def ac_law09_refs_7 : AC := .block 1 ac_law09_refs_6
def l_law09_refs_8 : List AOp := [⟨(some 9), .mv (.t 4), none, none, [], none⟩,
  ⟨(some 10), .bin .add (.t 9) (.k (.int .i64 1)), none, none, [], none⟩,
  ⟨(some 4), .mv (.t 10), none, none, [], none⟩]
def ac_law09_refs_8 : AC := .reg l_law09_refs_8
def ac_law09_refs_9 : AC := .seq ac_law09_refs_7 ac_law09_refs_8
def ac_law09_refs_10 : AC := .seq ac_law09_refs_5 ac_law09_refs_9
def ac_law09_refs_11 : AC := .loop [0, 3, 4] 1 ac_law09_refs_10
def ac_law09_refs_12 : AC := .block 0 ac_law09_refs_11
def ac_law09_refs_13 : AC := .seq ac_law09_refs_2 ac_law09_refs_12
def l_law09_refs_14 : List AOp := [⟨(some 18), .mv (.t 3), none, none, [], none⟩,
  ⟨(some 2), .mv (.t 18), none, none, [], none⟩]
def ac_law09_refs_14 : AC := .reg l_law09_refs_14
def ac_law09_refs_15 : AC := .seq ac_law09_refs_14 .ret
def ac_law09_refs_16 : AC := .seq ac_law09_refs_13 ac_law09_refs_15
def ac_law09_refs_17 : AC := .seq ac_law09_refs_1 ac_law09_refs_16
def ac_law09_refs_18 : AC := .seq ac_law09_refs_0 ac_law09_refs_17
def ac_law09_refs : AC := ac_law09_refs_18
theorem comp_law09_refs : compF Try.prog [3] (drawR Try.prog [3] Try.f19.ntmps) [([0, 3, 4], 1)] 1 Try.f19 = some (ac_law09_refs, [.t 2]) := by kernel_rfl
def U_law09_refs := (And.intro (And.intro (And.intro (And.intro (And.intro @ac_law09_refs.eq_1 (@mR _ _ ac_law09_refs_0.eq_1)) (And.intro (@mR _ _ ac_law09_refs_1.eq_1) (@mR _ _ ac_law09_refs_2.eq_1))) (And.intro (And.intro (@mR _ _ ac_law09_refs_3.eq_1) (@mU _ _ ac_law09_refs_4.eq_1)) (@mU _ _ ac_law09_refs_5.eq_1))) (And.intro (And.intro (And.intro (@mR _ _ ac_law09_refs_6.eq_1) (@mU _ _ ac_law09_refs_7.eq_1)) (And.intro (@mR _ _ ac_law09_refs_8.eq_1) (@mU _ _ ac_law09_refs_9.eq_1))) (And.intro (And.intro (@mU _ _ ac_law09_refs_10.eq_1) (@mU _ _ ac_law09_refs_11.eq_1)) (@mU _ _ ac_law09_refs_12.eq_1)))) (And.intro (And.intro (And.intro (And.intro (@mU _ _ ac_law09_refs_13.eq_1) (@mR _ _ ac_law09_refs_14.eq_1)) (And.intro (@mU _ _ ac_law09_refs_15.eq_1) (@mU _ _ ac_law09_refs_16.eq_1))) (And.intro (And.intro (@mU _ _ ac_law09_refs_17.eq_1) (@mU _ _ ac_law09_refs_18.eq_1)) @l_law09_refs_0.eq_1)) (And.intro (And.intro (And.intro @l_law09_refs_1.eq_1 @l_law09_refs_2.eq_1) @l_law09_refs_3.eq_1) (And.intro (And.intro @l_law09_refs_6.eq_1 @l_law09_refs_8.eq_1) @l_law09_refs_14.eq_1))))

end Go.Proofs.Ytlkpceacmfndlaa.Aw
