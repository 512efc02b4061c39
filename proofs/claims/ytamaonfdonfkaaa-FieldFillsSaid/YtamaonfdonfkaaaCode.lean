/-
  The functions of the seat, translated to abstract code. Written by a program (wip/Gen2.lean).
-/
import Derived.Test.YtamaonfdonfkaaaAwBun
import Derived.Test.YtamaonfdonfkaaaProg
set_option maxRecDepth 100000
set_option linter.all false
namespace Go.Proofs.Ytamaonfdonfkaaa.Aw
open Go.RowKit
/- scoria/scorialaw01.FieldPuts -/
def l_law01_FieldPuts_0 : List AOp := [⟨(some 4), .mv (.k (.bool false)), none, none, [], none⟩]
def ac_law01_FieldPuts_0 : AC := .reg l_law01_FieldPuts_0
def l_law01_FieldPuts_1 : List AOp := [⟨(some 10), .mv (.t 0), none, none, [], none⟩,
  ⟨(some 11), .mv (.t 1), none, none, [], none⟩,
  ⟨(some 12), .call false 12 [(.t 10), (.t 11)], none, none, [], none⟩,
  ⟨(some 9), .mv (.t 12), none, none, [], none⟩,
  ⟨(some 13), .ext 0 (.t 9), none, none, [], none⟩,
  ⟨(some 14), .ext 1 (.t 9), none, none, [], none⟩,
  ⟨(some 5), .mv (.t 13), none, none, [], none⟩,
  ⟨(some 6), .mv (.t 14), none, none, [], none⟩]
def ac_law01_FieldPuts_1 : AC := .reg l_law01_FieldPuts_1
def l_law01_FieldPuts_2 : List AOp := [⟨(some 16), .mv (.t 0), none, none, [], none⟩,
  ⟨(some 17), .mv (.t 1), none, none, [], none⟩,
  ⟨(some 18), .call false 13 [(.t 16), (.t 17)], none, none, [], none⟩,
  ⟨(some 15), .mv (.t 18), none, none, [], none⟩,
  ⟨(some 19), .ext 0 (.t 15), none, none, [], none⟩,
  ⟨(some 20), .ext 1 (.t 15), none, none, [], none⟩,
  ⟨(some 7), .mv (.t 19), none, none, [], none⟩,
  ⟨(some 8), .mv (.t 20), none, none, [], none⟩]
def ac_law01_FieldPuts_2 : AC := .reg l_law01_FieldPuts_2
def l_law01_FieldPuts_3 : List AOp := [⟨(some 21), .call false 14 [], none, none, [], none⟩,
  ⟨(some 22), .mv (.t 21), none, none, [], none⟩,
  ⟨(some 23), .mv (.t 5), (some (22, true)), none, [], none⟩,
  ⟨(some 24), .mv (.t 7), (some (22, true)), none, [], none⟩,
  ⟨(some 25), .bin .eql (.t 23) (.t 24), (some (22, true)), none, [], none⟩,
  ⟨(some 26), .pick (.t 22) (.t 25) (.k (.bool false)), none, none, [], none⟩,
  ⟨(some 27), .mv (.t 26), none, none, [], none⟩,
  ⟨(some 28), .mv (.t 6), (some (27, true)), none, [], none⟩,
  ⟨(some 29), .mv (.t 8), (some (27, true)), none, [], none⟩,
  ⟨(some 30), .bin .eql (.t 28) (.t 29), (some (27, true)), none, [], none⟩,
  ⟨(some 31), .pick (.t 27) (.t 30) (.k (.bool false)), none, none, [], none⟩,
  ⟨(some 4), .mv (.t 31), none, none, [], none⟩]
def ac_law01_FieldPuts_3 : AC := .reg l_law01_FieldPuts_3
def ac_law01_FieldPuts_4 : AC := .seq ac_law01_FieldPuts_3 .ret
def ac_law01_FieldPuts_5 : AC := .seq ac_law01_FieldPuts_2 ac_law01_FieldPuts_4
def ac_law01_FieldPuts_6 : AC := .seq ac_law01_FieldPuts_1 ac_law01_FieldPuts_5
def ac_law01_FieldPuts_7 : AC := .seq ac_law01_FieldPuts_0 ac_law01_FieldPuts_6
def ac_law01_FieldPuts : AC := ac_law01_FieldPuts_7
theorem comp_law01_FieldPuts : compF Try.prog [] (drawR Try.prog [] Try.f3.ntmps) [] 2 Try.f3 = some (ac_law01_FieldPuts, [.t 4]) := by kernel_rfl
def U_law01_FieldPuts := (And.intro (And.intro (And.intro (And.intro @ac_law01_FieldPuts.eq_1 (@mR _ _ ac_law01_FieldPuts_0.eq_1)) (And.intro (@mR _ _ ac_law01_FieldPuts_1.eq_1) (@mR _ _ ac_law01_FieldPuts_2.eq_1))) (And.intro (And.intro (@mR _ _ ac_law01_FieldPuts_3.eq_1) (@mU _ _ ac_law01_FieldPuts_4.eq_1)) (@mU _ _ ac_law01_FieldPuts_5.eq_1))) (And.intro (And.intro (And.intro (@mU _ _ ac_law01_FieldPuts_6.eq_1) (@mU _ _ ac_law01_FieldPuts_7.eq_1)) @l_law01_FieldPuts_0.eq_1) (And.intro (And.intro @l_law01_FieldPuts_1.eq_1 @l_law01_FieldPuts_2.eq_1) @l_law01_FieldPuts_3.eq_1)))

/- scoria/scorialaw01.FieldGets -/
def l_law01_FieldGets_0 : List AOp := [⟨(some 6), .mv (.k (.bool false)), none, none, [], none⟩]
def ac_law01_FieldGets_0 : AC := .reg l_law01_FieldGets_0
def l_law01_FieldGets_1 : List AOp := [⟨(some 12), .mv (.t 0), none, none, [], none⟩,
  ⟨(some 13), .mv (.t 1), none, none, [], none⟩,
  ⟨(some 14), .mv (.t 2), none, none, [], none⟩,
  ⟨(some 15), .call false 15 [(.t 12), (.t 13), (.t 14)], none, none, [], none⟩,
  ⟨(some 11), .mv (.t 15), none, none, [], none⟩,
  ⟨(some 16), .ext 0 (.t 11), none, none, [], none⟩,
  ⟨(some 17), .ext 1 (.t 11), none, none, [], none⟩,
  ⟨(some 7), .mv (.t 16), none, none, [], none⟩,
  ⟨(some 8), .mv (.t 17), none, none, [], none⟩]
def ac_law01_FieldGets_1 : AC := .reg l_law01_FieldGets_1
def l_law01_FieldGets_2 : List AOp := [⟨(some 19), .mv (.t 0), none, none, [], none⟩,
  ⟨(some 20), .mv (.t 1), none, none, [], none⟩,
  ⟨(some 21), .mv (.t 2), none, none, [], none⟩,
  ⟨(some 22), .call false 16 [(.t 19), (.t 20), (.t 21)], none, none, [], none⟩,
  ⟨(some 18), .mv (.t 22), none, none, [], none⟩,
  ⟨(some 23), .ext 0 (.t 18), none, none, [], none⟩,
  ⟨(some 24), .ext 1 (.t 18), none, none, [], none⟩,
  ⟨(some 9), .mv (.t 23), none, none, [], none⟩,
  ⟨(some 10), .mv (.t 24), none, none, [], none⟩]
def ac_law01_FieldGets_2 : AC := .reg l_law01_FieldGets_2
def l_law01_FieldGets_3 : List AOp := [⟨(some 25), .call false 14 [], none, none, [], none⟩,
  ⟨(some 26), .mv (.t 25), none, none, [], none⟩,
  ⟨(some 27), .mv (.t 7), (some (26, true)), none, [], none⟩,
  ⟨(some 28), .mv (.t 9), (some (26, true)), none, [], none⟩,
  ⟨(some 29), .bin .eql (.t 27) (.t 28), (some (26, true)), none, [], none⟩,
  ⟨(some 30), .pick (.t 26) (.t 29) (.k (.bool false)), none, none, [], none⟩,
  ⟨(some 31), .mv (.t 30), none, none, [], none⟩,
  ⟨(some 32), .mv (.t 8), (some (31, true)), none, [], none⟩,
  ⟨(some 33), .mv (.t 10), (some (31, true)), none, [], none⟩,
  ⟨(some 34), .bin .eql (.t 32) (.t 33), (some (31, true)), none, [], none⟩,
  ⟨(some 35), .pick (.t 31) (.t 34) (.k (.bool false)), none, none, [], none⟩,
  ⟨(some 6), .mv (.t 35), none, none, [], none⟩]
def ac_law01_FieldGets_3 : AC := .reg l_law01_FieldGets_3
def ac_law01_FieldGets_4 : AC := .seq ac_law01_FieldGets_3 .ret
def ac_law01_FieldGets_5 : AC := .seq ac_law01_FieldGets_2 ac_law01_FieldGets_4
def ac_law01_FieldGets_6 : AC := .seq ac_law01_FieldGets_1 ac_law01_FieldGets_5
def ac_law01_FieldGets_7 : AC := .seq ac_law01_FieldGets_0 ac_law01_FieldGets_6
def ac_law01_FieldGets : AC := ac_law01_FieldGets_7
theorem comp_law01_FieldGets : compF Try.prog [] (drawR Try.prog [] Try.f4.ntmps) [] 3 Try.f4 = some (ac_law01_FieldGets, [.t 6]) := by kernel_rfl
def U_law01_FieldGets := (And.intro (And.intro (And.intro (And.intro @ac_law01_FieldGets.eq_1 (@mR _ _ ac_law01_FieldGets_0.eq_1)) (And.intro (@mR _ _ ac_law01_FieldGets_1.eq_1) (@mR _ _ ac_law01_FieldGets_2.eq_1))) (And.intro (And.intro (@mR _ _ ac_law01_FieldGets_3.eq_1) (@mU _ _ ac_law01_FieldGets_4.eq_1)) (@mU _ _ ac_law01_FieldGets_5.eq_1))) (And.intro (And.intro (And.intro (@mU _ _ ac_law01_FieldGets_6.eq_1) (@mU _ _ ac_law01_FieldGets_7.eq_1)) @l_law01_FieldGets_0.eq_1) (And.intro (And.intro @l_law01_FieldGets_1.eq_1 @l_law01_FieldGets_2.eq_1) @l_law01_FieldGets_3.eq_1)))

/- scoria/scorialaw01.FieldBack -/
def l_law01_FieldBack_0 : List AOp := [⟨(some 5), .box (.t 2), none, none, [], none⟩,
  ⟨(some 6), .mv (.k (.bool false)), none, none, [], none⟩]
def ac_law01_FieldBack_0 : AC := .reg l_law01_FieldBack_0
def l_law01_FieldBack_1 : List AOp := [⟨(some 12), .mv (.t 0), none, none, [], none⟩,
  ⟨(some 13), .mv (.t 1), none, none, [], none⟩,
  ⟨(some 14), .call false 12 [(.t 12), (.t 13)], none, none, [], none⟩,
  ⟨(some 11), .mv (.t 14), none, none, [], none⟩,
  ⟨(some 15), .ext 0 (.t 11), none, none, [], none⟩,
  ⟨(some 16), .ext 1 (.t 11), none, none, [], none⟩,
  ⟨(some 7), .mv (.t 15), none, none, [], none⟩,
  ⟨(some 8), .mv (.t 16), none, none, [], none⟩]
def ac_law01_FieldBack_1 : AC := .reg l_law01_FieldBack_1
def l_law01_FieldBack_2 : List AOp := [⟨(some 17), .mv (.t 8), none, none, [], none⟩,
  ⟨(some 18), .bin .neq (.t 17) (.k (.int .i64 0)), none, none, [], none⟩]
def ac_law01_FieldBack_2 : AC := .reg l_law01_FieldBack_2
def l_law01_FieldBack_3 : List AOp := [⟨(some 19), .call false 14 [], none, none, [], none⟩,
  ⟨(some 20), .mv (.t 19), none, none, [], none⟩,
  ⟨(some 21), .mv (.t 7), (some (20, true)), none, [], none⟩,
  ⟨(some 22), .bin .eql (.t 21) (.k (.str [])), (some (20, true)), none, [], none⟩,
  ⟨(some 23), .pick (.t 20) (.t 22) (.k (.bool false)), none, none, [], none⟩,
  ⟨(some 6), .mv (.t 23), none, none, [], none⟩]
def ac_law01_FieldBack_3 : AC := .reg l_law01_FieldBack_3
def ac_law01_FieldBack_4 : AC := .seq ac_law01_FieldBack_3 .ret
def ac_law01_FieldBack_5 : AC := .cond (.t 18) ac_law01_FieldBack_4 .skip
def ac_law01_FieldBack_6 : AC := .seq ac_law01_FieldBack_2 ac_law01_FieldBack_5
def l_law01_FieldBack_7 : List AOp := [⟨(some 25), .iarr 1 2 (.t 5) (.k (.int .i64 0)), none, none, [], none⟩,
  ⟨(some 26), .load none (.t 25), none, none, [], none⟩,
  ⟨(some 27), .mv (.t 7), none, none, [], none⟩,
  ⟨(some 28), .bin .add (.t 26) (.t 27), none, none, [], none⟩,
  ⟨(some 29), .iarr 1 2 (.t 5) (.k (.int .i64 1)), none, none, [], none⟩,
  ⟨(some 30), .load none (.t 29), none, none, [], none⟩,
  ⟨(some 31), .bin .add (.t 28) (.t 30), none, none, [], none⟩,
  ⟨(some 32), .iarr 1 2 (.t 5) (.k (.int .i64 0)), none, none, [], none⟩,
  ⟨(some 33), .load none (.t 32), none, none, [], none⟩,
  ⟨(some 34), .lens (.t 33), none, none, [], none⟩,
  ⟨(some 35), .mv (.t 1), none, none, [], none⟩,
  ⟨(some 36), .call false 15 [(.t 31), (.t 34), (.t 35)], none, none, [], none⟩,
  ⟨(some 24), .mv (.t 36), none, none, [], none⟩,
  ⟨(some 37), .ext 0 (.t 24), none, none, [], none⟩,
  ⟨(some 38), .ext 1 (.t 24), none, none, [], none⟩,
  ⟨(some 9), .mv (.t 37), none, none, [], none⟩,
  ⟨(some 10), .mv (.t 38), none, none, [], none⟩]
def ac_law01_FieldBack_7 : AC := .reg l_law01_FieldBack_7
def l_law01_FieldBack_8 : List AOp := [⟨(some 39), .call false 14 [], none, none, [], none⟩,
  ⟨(some 40), .mv (.t 39), none, none, [], none⟩,
  ⟨(some 41), .mv (.t 10), (some (40, true)), none, [], none⟩,
  ⟨(some 42), .bin .eql (.t 41) (.k (.int .i64 0)), (some (40, true)), none, [], none⟩,
  ⟨(some 43), .pick (.t 40) (.t 42) (.k (.bool false)), none, none, [], none⟩,
  ⟨(some 44), .mv (.t 43), none, none, [], none⟩,
  ⟨(some 45), .mv (.t 9), (some (44, true)), none, [], none⟩,
  ⟨(some 46), .mv (.t 0), (some (44, true)), none, [], none⟩,
  ⟨(some 47), .bin .eql (.t 45) (.t 46), (some (44, true)), none, [], none⟩,
  ⟨(some 48), .pick (.t 44) (.t 47) (.k (.bool false)), none, none, [], none⟩,
  ⟨(some 49), .mv (.t 48), none, none, [], none⟩,
  ⟨(some 50), .mv (.t 7), (some (49, true)), none, [], none⟩,
  ⟨(some 51), .lens (.t 50), (some (49, true)), none, [], none⟩,
  ⟨(some 52), .mv (.t 1), (some (49, true)), none, [], none⟩,
  ⟨(some 53), .bin .eql (.t 51) (.t 52), (some (49, true)), none, [], none⟩,
  ⟨(some 54), .pick (.t 49) (.t 53) (.k (.bool false)), none, none, [], none⟩,
  ⟨(some 6), .mv (.t 54), none, none, [], none⟩]
def ac_law01_FieldBack_8 : AC := .reg l_law01_FieldBack_8
def ac_law01_FieldBack_9 : AC := .seq ac_law01_FieldBack_8 .ret
def ac_law01_FieldBack_10 : AC := .seq ac_law01_FieldBack_7 ac_law01_FieldBack_9
def ac_law01_FieldBack_11 : AC := .seq ac_law01_FieldBack_6 ac_law01_FieldBack_10
def ac_law01_FieldBack_12 : AC := .seq ac_law01_FieldBack_1 ac_law01_FieldBack_11
def ac_law01_FieldBack_13 : AC := .seq ac_law01_FieldBack_0 ac_law01_FieldBack_12
def ac_law01_FieldBack : AC := ac_law01_FieldBack_13
theorem comp_law01_FieldBack : compF Try.prog [] (drawR Try.prog [] Try.f5.ntmps) [] 3 Try.f5 = some (ac_law01_FieldBack, [.t 6]) := by kernel_rfl
def U_law01_FieldBack := (And.intro (And.intro (And.intro (And.intro (And.intro @ac_law01_FieldBack.eq_1 (@mR _ _ ac_law01_FieldBack_0.eq_1)) (@mR _ _ ac_law01_FieldBack_1.eq_1)) (And.intro (And.intro (@mR _ _ ac_law01_FieldBack_2.eq_1) (@mR _ _ ac_law01_FieldBack_3.eq_1)) (@mU _ _ ac_law01_FieldBack_4.eq_1))) (And.intro (And.intro (And.intro (@mU _ _ ac_law01_FieldBack_5.eq_1) (@mU _ _ ac_law01_FieldBack_6.eq_1)) (@mR _ _ ac_law01_FieldBack_7.eq_1)) (And.intro (@mR _ _ ac_law01_FieldBack_8.eq_1) (@mU _ _ ac_law01_FieldBack_9.eq_1)))) (And.intro (And.intro (And.intro (And.intro (@mU _ _ ac_law01_FieldBack_10.eq_1) (@mU _ _ ac_law01_FieldBack_11.eq_1)) (@mU _ _ ac_law01_FieldBack_12.eq_1)) (And.intro (@mU _ _ ac_law01_FieldBack_13.eq_1) @l_law01_FieldBack_0.eq_1)) (And.intro (And.intro (And.intro @l_law01_FieldBack_1.eq_1 @l_law01_FieldBack_2.eq_1) @l_law01_FieldBack_3.eq_1) (And.intro @l_law01_FieldBack_7.eq_1 @l_law01_FieldBack_8.eq_1))))

/- scoria/scorialaw01.FieldRises -/
def l_law01_FieldRises_0 : List AOp := [⟨(some 6), .mv (.k (.bool false)), none, none, [], none⟩]
def ac_law01_FieldRises_0 : AC := .reg l_law01_FieldRises_0
def l_law01_FieldRises_1 : List AOp := [⟨(some 13), .mv (.t 0), none, none, [], none⟩,
  ⟨(some 14), .mv (.t 2), none, none, [], none⟩,
  ⟨(some 15), .call false 12 [(.t 13), (.t 14)], none, none, [], none⟩,
  ⟨(some 12), .mv (.t 15), none, none, [], none⟩,
  ⟨(some 16), .ext 0 (.t 12), none, none, [], none⟩,
  ⟨(some 17), .ext 1 (.t 12), none, none, [], none⟩,
  ⟨(some 7), .mv (.t 16), none, none, [], none⟩,
  ⟨(some 8), .mv (.t 17), none, none, [], none⟩]
def ac_law01_FieldRises_1 : AC := .reg l_law01_FieldRises_1
def l_law01_FieldRises_2 : List AOp := [⟨(some 19), .mv (.t 1), none, none, [], none⟩,
  ⟨(some 20), .mv (.t 2), none, none, [], none⟩,
  ⟨(some 21), .call false 12 [(.t 19), (.t 20)], none, none, [], none⟩,
  ⟨(some 18), .mv (.t 21), none, none, [], none⟩,
  ⟨(some 22), .ext 0 (.t 18), none, none, [], none⟩,
  ⟨(some 23), .ext 1 (.t 18), none, none, [], none⟩,
  ⟨(some 9), .mv (.t 22), none, none, [], none⟩,
  ⟨(some 10), .mv (.t 23), none, none, [], none⟩]
def ac_law01_FieldRises_2 : AC := .reg l_law01_FieldRises_2
def l_law01_FieldRises_3 : List AOp := [⟨(some 24), .mv (.t 8), none, none, [], none⟩,
  ⟨(some 25), .bin .neq (.t 24) (.k (.int .i64 0)), none, none, [], none⟩,
  ⟨(some 26), .mv (.t 25), none, none, [], none⟩,
  ⟨(some 27), .mv (.t 10), (some (26, false)), none, [], none⟩,
  ⟨(some 28), .bin .neq (.t 27) (.k (.int .i64 0)), (some (26, false)), none, [], none⟩,
  ⟨(some 29), .pick (.t 26) (.k (.bool true)) (.t 28), none, none, [], none⟩]
def ac_law01_FieldRises_3 : AC := .reg l_law01_FieldRises_3
def l_law01_FieldRises_4 : List AOp := [⟨(some 30), .call false 14 [], none, none, [], none⟩,
  ⟨(some 6), .mv (.t 30), none, none, [], none⟩]
def ac_law01_FieldRises_4 : AC := .reg l_law01_FieldRises_4
def ac_law01_FieldRises_5 : AC := .seq ac_law01_FieldRises_4 .ret
def ac_law01_FieldRises_6 : AC := .cond (.t 29) ac_law01_FieldRises_5 .skip
def ac_law01_FieldRises_7 : AC := .seq ac_law01_FieldRises_3 ac_law01_FieldRises_6
def l_law01_FieldRises_8 : List AOp := [⟨(some 31), .mv (.t 7), none, none, [], none⟩,
  ⟨(some 32), .lens (.t 31), none, none, [], none⟩,
  ⟨(some 33), .mv (.t 2), none, none, [], none⟩,
  ⟨(some 34), .bin .neq (.t 32) (.t 33), none, none, [], none⟩,
  ⟨(some 35), .mv (.t 34), none, none, [], none⟩,
  ⟨(some 36), .mv (.t 9), (some (35, false)), none, [], none⟩,
  ⟨(some 37), .lens (.t 36), (some (35, false)), none, [], none⟩,
  ⟨(some 38), .mv (.t 2), (some (35, false)), none, [], none⟩,
  ⟨(some 39), .bin .neq (.t 37) (.t 38), (some (35, false)), none, [], none⟩,
  ⟨(some 40), .pick (.t 35) (.k (.bool true)) (.t 39), none, none, [], none⟩]
def ac_law01_FieldRises_8 : AC := .reg l_law01_FieldRises_8
def l_law01_FieldRises_9 : List AOp := [⟨(some 6), .mv (.k (.bool false)), none, none, [], none⟩]
def ac_law01_FieldRises_9 : AC := .reg l_law01_FieldRises_9
def ac_law01_FieldRises_10 : AC := .seq ac_law01_FieldRises_9 .ret
def ac_law01_FieldRises_11 : AC := .cond (.t 40) ac_law01_FieldRises_10 .skip
def ac_law01_FieldRises_12 : AC := .seq ac_law01_FieldRises_8 ac_law01_FieldRises_11
def l_law01_FieldRises_13 : List AOp := [⟨(some 41), .mv (.t 2), none, none, [], none⟩,
  ⟨(some 42), .bin .sub (.t 41) (.k (.int .i64 1)), none, none, [], none⟩,
  ⟨(some 11), .mv (.t 42), none, none, [], none⟩]
def ac_law01_FieldRises_13 : AC := .reg l_law01_FieldRises_13
def l_law01_FieldRises_14 : List AOp := [⟨(some 43), .mv (.t 11), none, none, [], none⟩,
  ⟨(some 44), .bin .geq (.t 43) (.k (.int .i64 0)), none, none, [], none⟩]
def ac_law01_FieldRises_14 : AC := .reg l_law01_FieldRises_14
def ac_law01_FieldRises_15 : AC := .cond (.t 44) .skip (.exit 0)
def ac_law01_FieldRises_16 : AC := .seq ac_law01_FieldRises_14 ac_law01_FieldRises_15
def l_law01_FieldRises_17 : List AOp := [⟨(some 47), .mv (.t 7), none, none, [], none⟩,
  ⟨(some 48), .mv (.t 11), none, none, [], none⟩,
  ⟨(some 49), .idxs (.t 47) (.t 48), none, none, [], none⟩,
  ⟨(some 50), .mv (.t 9), none, none, [], none⟩,
  ⟨(some 51), .mv (.t 11), none, none, [], none⟩,
  ⟨(some 52), .idxs (.t 50) (.t 51), none, none, [], none⟩,
  ⟨(some 53), .bin .neq (.t 49) (.t 52), none, none, [], none⟩]
def ac_law01_FieldRises_17 : AC := .dreg 0 l_law01_FieldRises_17
def l_law01_FieldRises_18 : List AOp := [⟨(some 54), .call false 14 [], none, none, [], none⟩,
  ⟨(some 55), .mv (.t 54), none, none, [], none⟩,
  ⟨(some 56), .mv (.t 7), (some (55, true)), none, [], none⟩,
  ⟨(some 57), .mv (.t 11), (some (55, true)), none, [], none⟩,
  ⟨(some 58), .idxs (.t 56) (.t 57), (some (55, true)), none, [], none⟩,
  ⟨(some 59), .mv (.t 9), (some (55, true)), none, [], none⟩,
  ⟨(some 60), .mv (.t 11), (some (55, true)), none, [], none⟩,
  ⟨(some 61), .idxs (.t 59) (.t 60), (some (55, true)), none, [], none⟩,
  ⟨(some 62), .bin .lss (.t 58) (.t 61), (some (55, true)), none, [], none⟩,
  ⟨(some 63), .mv (.t 0), (some (55, true)), none, [], none⟩,
  ⟨(some 64), .mv (.t 1), (some (55, true)), none, [], none⟩,
  ⟨(some 65), .bin .lss (.t 63) (.t 64), (some (55, true)), none, [], none⟩,
  ⟨(some 66), .eqb false (.t 62) (.t 65), (some (55, true)), none, [], none⟩,
  ⟨(some 67), .pick (.t 55) (.t 66) (.k (.bool false)), none, none, [], none⟩,
  ⟨(some 6), .mv (.t 67), none, none, [], none⟩]
def ac_law01_FieldRises_18 : AC := .dreg 0 l_law01_FieldRises_18
def ac_law01_FieldRises_19 : AC := .seq ac_law01_FieldRises_18 .ret
def ac_law01_FieldRises_20 : AC := .cond (.t 53) ac_law01_FieldRises_19 .skip
def ac_law01_FieldRises_21 : AC := .seq ac_law01_FieldRises_17 ac_law01_FieldRises_20
def ac_law01_FieldRises_22 : AC := .block 1 ac_law01_FieldRises_21
def l_law01_FieldRises_23 : List AOp := [⟨(some 45), .mv (.t 11), none, none, [], none⟩,
  ⟨(some 46), .bin .sub (.t 45) (.k (.int .i64 1)), none, none, [], none⟩,
  ⟨(some 11), .mv (.t 46), none, none, [], none⟩]
def ac_law01_FieldRises_23 : AC := .reg l_law01_FieldRises_23
def ac_law01_FieldRises_24 : AC := .seq ac_law01_FieldRises_22 ac_law01_FieldRises_23
def ac_law01_FieldRises_25 : AC := .seq ac_law01_FieldRises_16 ac_law01_FieldRises_24
def ac_law01_FieldRises_26 : AC := .loop [0, 1, 7, 9, 11] 0 ac_law01_FieldRises_25
def ac_law01_FieldRises_27 : AC := .block 0 ac_law01_FieldRises_26
def ac_law01_FieldRises_28 : AC := .seq ac_law01_FieldRises_13 ac_law01_FieldRises_27
def l_law01_FieldRises_29 : List AOp := [⟨(some 68), .call false 14 [], none, none, [], none⟩,
  ⟨(some 69), .mv (.t 68), none, none, [], none⟩,
  ⟨(some 70), .mv (.t 0), (some (69, true)), none, [], none⟩,
  ⟨(some 71), .mv (.t 1), (some (69, true)), none, [], none⟩,
  ⟨(some 72), .bin .eql (.t 70) (.t 71), (some (69, true)), none, [], none⟩,
  ⟨(some 73), .pick (.t 69) (.t 72) (.k (.bool false)), none, none, [], none⟩,
  ⟨(some 6), .mv (.t 73), none, none, [], none⟩]
def ac_law01_FieldRises_29 : AC := .reg l_law01_FieldRises_29
def ac_law01_FieldRises_30 : AC := .seq ac_law01_FieldRises_29 .ret
def ac_law01_FieldRises_31 : AC := .seq ac_law01_FieldRises_28 ac_law01_FieldRises_30
def ac_law01_FieldRises_32 : AC := .seq ac_law01_FieldRises_12 ac_law01_FieldRises_31
def ac_law01_FieldRises_33 : AC := .seq ac_law01_FieldRises_7 ac_law01_FieldRises_32
def ac_law01_FieldRises_34 : AC := .seq ac_law01_FieldRises_2 ac_law01_FieldRises_33
def ac_law01_FieldRises_35 : AC := .seq ac_law01_FieldRises_1 ac_law01_FieldRises_34
def ac_law01_FieldRises_36 : AC := .seq ac_law01_FieldRises_0 ac_law01_FieldRises_35
def ac_law01_FieldRises : AC := ac_law01_FieldRises_36
theorem comp_law01_FieldRises : compF Try.prog [] (drawR Try.prog [] Try.f6.ntmps) [([0, 1, 7, 9, 11], 0)] 3 Try.f6 = some (ac_law01_FieldRises, [.t 6]) := by kernel_rfl
def U_law01_FieldRises := (And.intro (And.intro (And.intro (And.intro (And.intro (And.intro @ac_law01_FieldRises.eq_1 (@mR _ _ ac_law01_FieldRises_0.eq_1)) (And.intro (@mR _ _ ac_law01_FieldRises_1.eq_1) (@mR _ _ ac_law01_FieldRises_2.eq_1))) (And.intro (And.intro (@mR _ _ ac_law01_FieldRises_3.eq_1) (@mR _ _ ac_law01_FieldRises_4.eq_1)) (@mU _ _ ac_law01_FieldRises_5.eq_1))) (And.intro (And.intro (And.intro (@mU _ _ ac_law01_FieldRises_6.eq_1) (@mU _ _ ac_law01_FieldRises_7.eq_1)) (@mR _ _ ac_law01_FieldRises_8.eq_1)) (And.intro (And.intro (@mR _ _ ac_law01_FieldRises_9.eq_1) (@mU _ _ ac_law01_FieldRises_10.eq_1)) (@mU _ _ ac_law01_FieldRises_11.eq_1)))) (And.intro (And.intro (And.intro (And.intro (@mU _ _ ac_law01_FieldRises_12.eq_1) (@mR _ _ ac_law01_FieldRises_13.eq_1)) (And.intro (@mR _ _ ac_law01_FieldRises_14.eq_1) (@mU _ _ ac_law01_FieldRises_15.eq_1))) (And.intro (And.intro (@mU _ _ ac_law01_FieldRises_16.eq_1) (@mD _ _ _ ac_law01_FieldRises_17.eq_1)) (@mD _ _ _ ac_law01_FieldRises_18.eq_1))) (And.intro (And.intro (And.intro (@mU _ _ ac_law01_FieldRises_19.eq_1) (@mU _ _ ac_law01_FieldRises_20.eq_1)) (@mU _ _ ac_law01_FieldRises_21.eq_1)) (And.intro (And.intro (@mU _ _ ac_law01_FieldRises_22.eq_1) (@mR _ _ ac_law01_FieldRises_23.eq_1)) (@mU _ _ ac_law01_FieldRises_24.eq_1))))) (And.intro (And.intro (And.intro (And.intro (And.intro (@mU _ _ ac_law01_FieldRises_25.eq_1) (@mU _ _ ac_law01_FieldRises_26.eq_1)) (And.intro (@mU _ _ ac_law01_FieldRises_27.eq_1) (@mU _ _ ac_law01_FieldRises_28.eq_1))) (And.intro (And.intro (@mR _ _ ac_law01_FieldRises_29.eq_1) (@mU _ _ ac_law01_FieldRises_30.eq_1)) (@mU _ _ ac_law01_FieldRises_31.eq_1))) (And.intro (And.intro (And.intro (@mU _ _ ac_law01_FieldRises_32.eq_1) (@mU _ _ ac_law01_FieldRises_33.eq_1)) (@mU _ _ ac_law01_FieldRises_34.eq_1)) (And.intro (And.intro (@mU _ _ ac_law01_FieldRises_35.eq_1) (@mU _ _ ac_law01_FieldRises_36.eq_1)) @l_law01_FieldRises_0.eq_1))) (And.intro (And.intro (And.intro (And.intro @l_law01_FieldRises_1.eq_1 @l_law01_FieldRises_2.eq_1) @l_law01_FieldRises_3.eq_1) (And.intro (And.intro @l_law01_FieldRises_4.eq_1 @l_law01_FieldRises_8.eq_1) @l_law01_FieldRises_9.eq_1)) (And.intro (And.intro (And.intro @l_law01_FieldRises_13.eq_1 @l_law01_FieldRises_14.eq_1) @l_law01_FieldRises_17.eq_1) (And.intro (And.intro @l_law01_FieldRises_18.eq_1 @l_law01_FieldRises_23.eq_1) @l_law01_FieldRises_29.eq_1)))))

/- scoria/scorialaw01.FieldTakes -/
def l_law01_FieldTakes_0 : List AOp := [⟨(some 4), .mv (.k (.bool false)), none, none, [], none⟩]
def ac_law01_FieldTakes_0 : AC := .reg l_law01_FieldTakes_0
def l_law01_FieldTakes_1 : List AOp := [⟨(some 11), .mv (.t 1), none, none, [], none⟩,
  ⟨(some 12), .len (.t 11), none, none, [], none⟩,
  ⟨(some 13), .bin .gtr (.t 12) (.k (.int .i64 300)), none, none, [], none⟩]
def ac_law01_FieldTakes_1 : AC := .reg l_law01_FieldTakes_1
def l_law01_FieldTakes_2 : List AOp := [⟨(some 14), .call false 14 [], none, none, [], none⟩,
  ⟨(some 4), .mv (.t 14), none, none, [], none⟩]
def ac_law01_FieldTakes_2 : AC := .reg l_law01_FieldTakes_2
def ac_law01_FieldTakes_3 : AC := .seq ac_law01_FieldTakes_2 .ret
def ac_law01_FieldTakes_4 : AC := .cond (.t 13) ac_law01_FieldTakes_3 .skip
def ac_law01_FieldTakes_5 : AC := .seq ac_law01_FieldTakes_1 ac_law01_FieldTakes_4
def l_law01_FieldTakes_6 : List AOp := [⟨(some 16), .mv (.t 0), none, none, [], none⟩,
  ⟨(some 17), .mv (.t 1), none, none, [], none⟩,
  ⟨(some 18), .call false 17 [(.t 16), (.t 17)], none, none, [], none⟩,
  ⟨(some 15), .mv (.t 18), none, none, [], none⟩,
  ⟨(some 19), .ext 0 (.t 15), none, none, [], none⟩,
  ⟨(some 20), .ext 1 (.t 15), none, none, [], none⟩,
  ⟨(some 21), .ext 2 (.t 15), none, none, [], none⟩,
  ⟨(some 5), .mv (.t 19), none, none, [], none⟩,
  ⟨(some 6), .mv (.t 20), none, none, [], none⟩,
  ⟨(some 7), .mv (.t 21), none, none, [], none⟩]
def ac_law01_FieldTakes_6 : AC := .reg l_law01_FieldTakes_6
def l_law01_FieldTakes_7 : List AOp := [⟨(some 23), .mv (.t 0), none, none, [], none⟩,
  ⟨(some 24), .mv (.t 1), none, none, [], none⟩,
  ⟨(some 25), .call false 18 [(.t 23), (.t 24)], none, none, [], none⟩,
  ⟨(some 22), .mv (.t 25), none, none, [], none⟩,
  ⟨(some 26), .ext 0 (.t 22), none, none, [], none⟩,
  ⟨(some 27), .ext 1 (.t 22), none, none, [], none⟩,
  ⟨(some 28), .ext 2 (.t 22), none, none, [], none⟩,
  ⟨(some 8), .mv (.t 26), none, none, [], none⟩,
  ⟨(some 9), .mv (.t 27), none, none, [], none⟩,
  ⟨(some 10), .mv (.t 28), none, none, [], none⟩]
def ac_law01_FieldTakes_7 : AC := .reg l_law01_FieldTakes_7
def l_law01_FieldTakes_8 : List AOp := [⟨(some 29), .call false 14 [], none, none, [], none⟩,
  ⟨(some 30), .mv (.t 29), none, none, [], none⟩,
  ⟨(some 31), .mv (.t 5), (some (30, true)), none, [], none⟩,
  ⟨(some 32), .mv (.t 8), (some (30, true)), none, [], none⟩,
  ⟨(some 33), .call false 19 [(.t 31), (.t 32)], (some (30, true)), none, [], none⟩,
  ⟨(some 34), .pick (.t 30) (.t 33) (.k (.bool false)), none, none, [], none⟩,
  ⟨(some 35), .mv (.t 34), none, none, [], none⟩,
  ⟨(some 36), .mv (.t 6), (some (35, true)), none, [], none⟩,
  ⟨(some 37), .mv (.t 9), (some (35, true)), none, [], none⟩,
  ⟨(some 38), .bin .eql (.t 36) (.t 37), (some (35, true)), none, [], none⟩,
  ⟨(some 39), .pick (.t 35) (.t 38) (.k (.bool false)), none, none, [], none⟩,
  ⟨(some 40), .mv (.t 39), none, none, [], none⟩,
  ⟨(some 41), .mv (.t 7), (some (40, true)), none, [], none⟩,
  ⟨(some 42), .mv (.t 10), (some (40, true)), none, [], none⟩,
  ⟨(some 43), .bin .eql (.t 41) (.t 42), (some (40, true)), none, [], none⟩,
  ⟨(some 44), .pick (.t 40) (.t 43) (.k (.bool false)), none, none, [], none⟩,
  ⟨(some 4), .mv (.t 44), none, none, [], none⟩]
def ac_law01_FieldTakes_8 : AC := .reg l_law01_FieldTakes_8
def ac_law01_FieldTakes_9 : AC := .seq ac_law01_FieldTakes_8 .ret
def ac_law01_FieldTakes_10 : AC := .seq ac_law01_FieldTakes_7 ac_law01_FieldTakes_9
def ac_law01_FieldTakes_11 : AC := .seq ac_law01_FieldTakes_6 ac_law01_FieldTakes_10
def ac_law01_FieldTakes_12 : AC := .seq ac_law01_FieldTakes_5 ac_law01_FieldTakes_11
def ac_law01_FieldTakes_13 : AC := .seq ac_law01_FieldTakes_0 ac_law01_FieldTakes_12
def ac_law01_FieldTakes : AC := ac_law01_FieldTakes_13
theorem comp_law01_FieldTakes : compF Try.prog [] (drawR Try.prog [] Try.f7.ntmps) [] 2 Try.f7 = some (ac_law01_FieldTakes, [.t 4]) := by kernel_rfl
def U_law01_FieldTakes := (And.intro (And.intro (And.intro (And.intro (And.intro @ac_law01_FieldTakes.eq_1 (@mR _ _ ac_law01_FieldTakes_0.eq_1)) (@mR _ _ ac_law01_FieldTakes_1.eq_1)) (And.intro (And.intro (@mR _ _ ac_law01_FieldTakes_2.eq_1) (@mU _ _ ac_law01_FieldTakes_3.eq_1)) (@mU _ _ ac_law01_FieldTakes_4.eq_1))) (And.intro (And.intro (And.intro (@mU _ _ ac_law01_FieldTakes_5.eq_1) (@mR _ _ ac_law01_FieldTakes_6.eq_1)) (@mR _ _ ac_law01_FieldTakes_7.eq_1)) (And.intro (@mR _ _ ac_law01_FieldTakes_8.eq_1) (@mU _ _ ac_law01_FieldTakes_9.eq_1)))) (And.intro (And.intro (And.intro (And.intro (@mU _ _ ac_law01_FieldTakes_10.eq_1) (@mU _ _ ac_law01_FieldTakes_11.eq_1)) (@mU _ _ ac_law01_FieldTakes_12.eq_1)) (And.intro (@mU _ _ ac_law01_FieldTakes_13.eq_1) @l_law01_FieldTakes_0.eq_1)) (And.intro (And.intro (And.intro @l_law01_FieldTakes_1.eq_1 @l_law01_FieldTakes_2.eq_1) @l_law01_FieldTakes_6.eq_1) (And.intro @l_law01_FieldTakes_7.eq_1 @l_law01_FieldTakes_8.eq_1))))

/- scoria/scorialaw01.FieldSplits -/
def l_law01_FieldSplits_0 : List AOp := [⟨(some 6), .mv (.k (.bool false)), none, none, [], none⟩]
def ac_law01_FieldSplits_0 : AC := .reg l_law01_FieldSplits_0
def l_law01_FieldSplits_1 : List AOp := [⟨(some 16), .mv (.t 1), none, none, [], none⟩,
  ⟨(some 17), .len (.t 16), none, none, [], none⟩,
  ⟨(some 18), .bin .gtr (.t 17) (.k (.int .i64 300)), none, none, [], none⟩]
def ac_law01_FieldSplits_1 : AC := .reg l_law01_FieldSplits_1
def l_law01_FieldSplits_2 : List AOp := [⟨(some 19), .call false 14 [], none, none, [], none⟩,
  ⟨(some 6), .mv (.t 19), none, none, [], none⟩]
def ac_law01_FieldSplits_2 : AC := .reg l_law01_FieldSplits_2
def ac_law01_FieldSplits_3 : AC := .seq ac_law01_FieldSplits_2 .ret
def ac_law01_FieldSplits_4 : AC := .cond (.t 18) ac_law01_FieldSplits_3 .skip
def ac_law01_FieldSplits_5 : AC := .seq ac_law01_FieldSplits_1 ac_law01_FieldSplits_4
def l_law01_FieldSplits_6 : List AOp := [⟨(some 20), .mv (.t 2), none, none, [], none⟩,
  ⟨(some 21), .mv (.t 1), none, none, [], none⟩,
  ⟨(some 22), .len (.t 21), none, none, [], none⟩,
  ⟨(some 23), .bin .add (.t 22) (.k (.int .i64 1)), none, none, [], none⟩,
  ⟨(some 24), .bin .rem (.t 20) (.t 23), none, none, [], none⟩,
  ⟨(some 25), .mv (.t 1), none, none, [], none⟩,
  ⟨(some 26), .len (.t 25), none, none, [], none⟩,
  ⟨(some 27), .bin .add (.t 24) (.t 26), none, none, [], none⟩,
  ⟨(some 28), .bin .add (.t 27) (.k (.int .i64 1)), none, none, [], none⟩,
  ⟨(some 29), .mv (.t 1), none, none, [], none⟩,
  ⟨(some 30), .len (.t 29), none, none, [], none⟩,
  ⟨(some 31), .bin .add (.t 30) (.k (.int .i64 1)), none, none, [], none⟩,
  ⟨(some 32), .bin .rem (.t 28) (.t 31), none, none, [], none⟩,
  ⟨(some 2), .mv (.t 32), none, none, [], none⟩]
def ac_law01_FieldSplits_6 : AC := .reg l_law01_FieldSplits_6
def l_law01_FieldSplits_7 : List AOp := [⟨(some 34), .mv (.t 0), none, none, [], none⟩,
  ⟨(some 35), .mv (.t 1), none, none, [], none⟩,
  ⟨(some 36), .call false 17 [(.t 34), (.t 35)], none, none, [], none⟩,
  ⟨(some 33), .mv (.t 36), none, none, [], none⟩,
  ⟨(some 37), .ext 0 (.t 33), none, none, [], none⟩,
  ⟨(some 38), .ext 1 (.t 33), none, none, [], none⟩,
  ⟨(some 39), .ext 2 (.t 33), none, none, [], none⟩,
  ⟨(some 7), .mv (.t 37), none, none, [], none⟩,
  ⟨(some 8), .mv (.t 38), none, none, [], none⟩,
  ⟨(some 9), .mv (.t 39), none, none, [], none⟩]
def ac_law01_FieldSplits_7 : AC := .reg l_law01_FieldSplits_7
def l_law01_FieldSplits_8 : List AOp := [⟨(some 41), .mv (.t 0), none, none, [], none⟩,
  ⟨(some 42), .mv (.t 1), none, none, [], none⟩,
  ⟨(some 43), .mv (.t 2), none, none, [], none⟩,
  ⟨(some 44), .ssl 1 (.t 42) none (some (.t 43)), none, none, [], none⟩,
  ⟨(some 45), .call false 17 [(.t 41), (.t 44)], none, none, [], none⟩,
  ⟨(some 40), .mv (.t 45), none, none, [], none⟩,
  ⟨(some 46), .ext 0 (.t 40), none, none, [], none⟩,
  ⟨(some 47), .ext 1 (.t 40), none, none, [], none⟩,
  ⟨(some 48), .ext 2 (.t 40), none, none, [], none⟩,
  ⟨(some 10), .mv (.t 46), none, none, [], none⟩,
  ⟨(some 11), .mv (.t 47), none, none, [], none⟩,
  ⟨(some 12), .mv (.t 48), none, none, [], none⟩]
def ac_law01_FieldSplits_8 : AC := .reg l_law01_FieldSplits_8
def l_law01_FieldSplits_9 : List AOp := [⟨(some 49), .mv (.t 12), none, none, [], none⟩,
  ⟨(some 50), .bin .neq (.t 49) (.k (.int .i64 0)), none, none, [], none⟩]
def ac_law01_FieldSplits_9 : AC := .reg l_law01_FieldSplits_9
def l_law01_FieldSplits_10 : List AOp := [⟨(some 51), .call false 14 [], none, none, [], none⟩,
  ⟨(some 52), .mv (.t 51), none, none, [], none⟩,
  ⟨(some 53), .mv (.t 9), (some (52, true)), none, [], none⟩,
  ⟨(some 54), .bin .neq (.t 53) (.k (.int .i64 0)), (some (52, true)), none, [], none⟩,
  ⟨(some 55), .pick (.t 52) (.t 54) (.k (.bool false)), none, none, [], none⟩,
  ⟨(some 6), .mv (.t 55), none, none, [], none⟩]
def ac_law01_FieldSplits_10 : AC := .reg l_law01_FieldSplits_10
def ac_law01_FieldSplits_11 : AC := .seq ac_law01_FieldSplits_10 .ret
def ac_law01_FieldSplits_12 : AC := .cond (.t 50) ac_law01_FieldSplits_11 .skip
def ac_law01_FieldSplits_13 : AC := .seq ac_law01_FieldSplits_9 ac_law01_FieldSplits_12
def l_law01_FieldSplits_14 : List AOp := [⟨(some 57), .mv (.t 11), none, none, [], none⟩,
  ⟨(some 58), .mv (.t 1), none, none, [], none⟩,
  ⟨(some 59), .mv (.t 2), none, none, [], none⟩,
  ⟨(some 60), .ssl 1 (.t 58) (some (.t 59)) none, none, none, [], none⟩,
  ⟨(some 61), .call false 17 [(.t 57), (.t 60)], none, none, [], none⟩,
  ⟨(some 56), .mv (.t 61), none, none, [], none⟩,
  ⟨(some 62), .ext 0 (.t 56), none, none, [], none⟩,
  ⟨(some 63), .ext 1 (.t 56), none, none, [], none⟩,
  ⟨(some 64), .ext 2 (.t 56), none, none, [], none⟩,
  ⟨(some 13), .mv (.t 62), none, none, [], none⟩,
  ⟨(some 14), .mv (.t 63), none, none, [], none⟩,
  ⟨(some 15), .mv (.t 64), none, none, [], none⟩]
def ac_law01_FieldSplits_14 : AC := .reg l_law01_FieldSplits_14
def l_law01_FieldSplits_15 : List AOp := [⟨(some 65), .mv (.t 15), none, none, [], none⟩,
  ⟨(some 66), .bin .neq (.t 65) (.k (.int .i64 0)), none, none, [], none⟩]
def ac_law01_FieldSplits_15 : AC := .reg l_law01_FieldSplits_15
def l_law01_FieldSplits_16 : List AOp := [⟨(some 67), .call false 14 [], none, none, [], none⟩,
  ⟨(some 68), .mv (.t 67), none, none, [], none⟩,
  ⟨(some 69), .mv (.t 9), (some (68, true)), none, [], none⟩,
  ⟨(some 70), .mv (.t 15), (some (68, true)), none, [], none⟩,
  ⟨(some 71), .bin .eql (.t 69) (.t 70), (some (68, true)), none, [], none⟩,
  ⟨(some 72), .pick (.t 68) (.t 71) (.k (.bool false)), none, none, [], none⟩,
  ⟨(some 6), .mv (.t 72), none, none, [], none⟩]
def ac_law01_FieldSplits_16 : AC := .reg l_law01_FieldSplits_16
def ac_law01_FieldSplits_17 : AC := .seq ac_law01_FieldSplits_16 .ret
def ac_law01_FieldSplits_18 : AC := .cond (.t 66) ac_law01_FieldSplits_17 .skip
def ac_law01_FieldSplits_19 : AC := .seq ac_law01_FieldSplits_15 ac_law01_FieldSplits_18
def l_law01_FieldSplits_20 : List AOp := [⟨(some 73), .call false 14 [], none, none, [], none⟩,
  ⟨(some 74), .mv (.t 73), none, none, [], none⟩,
  ⟨(some 75), .mv (.t 9), (some (74, true)), none, [], none⟩,
  ⟨(some 76), .bin .eql (.t 75) (.k (.int .i64 0)), (some (74, true)), none, [], none⟩,
  ⟨(some 77), .pick (.t 74) (.t 76) (.k (.bool false)), none, none, [], none⟩,
  ⟨(some 78), .mv (.t 77), none, none, [], none⟩,
  ⟨(some 79), .mv (.t 8), (some (78, true)), none, [], none⟩,
  ⟨(some 80), .mv (.t 14), (some (78, true)), none, [], none⟩,
  ⟨(some 81), .bin .eql (.t 79) (.t 80), (some (78, true)), none, [], none⟩,
  ⟨(some 82), .pick (.t 78) (.t 81) (.k (.bool false)), none, none, [], none⟩,
  ⟨(some 83), .mv (.t 82), none, none, [], none⟩,
  ⟨(some 84), .mv (.t 7), (some (83, true)), none, [], none⟩,
  ⟨(some 85), .blds true [(.int .u64 0)] 0 [], (some (83, true)), none, [], none⟩,
  ⟨(some 86), .mv (.t 10), (some (83, true)), none, [], none⟩,
  ⟨(some 87), .app 1 8 [(.int .u64 0)] (.t 85) (.t 86), (some (83, true)), none, [], none⟩,
  ⟨(some 88), .mv (.t 13), (some (83, true)), none, [], none⟩,
  ⟨(some 89), .app 1 8 [(.int .u64 0)] (.t 87) (.t 88), (some (83, true)), none, [], none⟩,
  ⟨(some 90), .call false 19 [(.t 84), (.t 89)], (some (83, true)), none, [], none⟩,
  ⟨(some 91), .pick (.t 83) (.t 90) (.k (.bool false)), none, none, [], none⟩,
  ⟨(some 6), .mv (.t 91), none, none, [], none⟩]
def ac_law01_FieldSplits_20 : AC := .reg l_law01_FieldSplits_20
def ac_law01_FieldSplits_21 : AC := .seq ac_law01_FieldSplits_20 .ret
def ac_law01_FieldSplits_22 : AC := .seq ac_law01_FieldSplits_19 ac_law01_FieldSplits_21
def ac_law01_FieldSplits_23 : AC := .seq ac_law01_FieldSplits_14 ac_law01_FieldSplits_22
def ac_law01_FieldSplits_24 : AC := .seq ac_law01_FieldSplits_13 ac_law01_FieldSplits_23
def ac_law01_FieldSplits_25 : AC := .seq ac_law01_FieldSplits_8 ac_law01_FieldSplits_24
def ac_law01_FieldSplits_26 : AC := .seq ac_law01_FieldSplits_7 ac_law01_FieldSplits_25
def ac_law01_FieldSplits_27 : AC := .seq ac_law01_FieldSplits_6 ac_law01_FieldSplits_26
def ac_law01_FieldSplits_28 : AC := .seq ac_law01_FieldSplits_5 ac_law01_FieldSplits_27
def ac_law01_FieldSplits_29 : AC := .seq ac_law01_FieldSplits_0 ac_law01_FieldSplits_28
def ac_law01_FieldSplits : AC := ac_law01_FieldSplits_29
theorem comp_law01_FieldSplits : compF Try.prog [85] (drawR Try.prog [85] Try.f8.ntmps) [] 3 Try.f8 = some (ac_law01_FieldSplits, [.t 6]) := by kernel_rfl
def U_law01_FieldSplits := (And.intro (And.intro (And.intro (And.intro (And.intro (And.intro @ac_law01_FieldSplits.eq_1 (@mR _ _ ac_law01_FieldSplits_0.eq_1)) (@mR _ _ ac_law01_FieldSplits_1.eq_1)) (And.intro (And.intro (@mR _ _ ac_law01_FieldSplits_2.eq_1) (@mU _ _ ac_law01_FieldSplits_3.eq_1)) (@mU _ _ ac_law01_FieldSplits_4.eq_1))) (And.intro (And.intro (And.intro (@mU _ _ ac_law01_FieldSplits_5.eq_1) (@mR _ _ ac_law01_FieldSplits_6.eq_1)) (@mR _ _ ac_law01_FieldSplits_7.eq_1)) (And.intro (@mR _ _ ac_law01_FieldSplits_8.eq_1) (@mR _ _ ac_law01_FieldSplits_9.eq_1)))) (And.intro (And.intro (And.intro (And.intro (@mR _ _ ac_law01_FieldSplits_10.eq_1) (@mU _ _ ac_law01_FieldSplits_11.eq_1)) (@mU _ _ ac_law01_FieldSplits_12.eq_1)) (And.intro (And.intro (@mU _ _ ac_law01_FieldSplits_13.eq_1) (@mR _ _ ac_law01_FieldSplits_14.eq_1)) (@mR _ _ ac_law01_FieldSplits_15.eq_1))) (And.intro (And.intro (And.intro (@mR _ _ ac_law01_FieldSplits_16.eq_1) (@mU _ _ ac_law01_FieldSplits_17.eq_1)) (@mU _ _ ac_law01_FieldSplits_18.eq_1)) (And.intro (@mU _ _ ac_law01_FieldSplits_19.eq_1) (@mR _ _ ac_law01_FieldSplits_20.eq_1))))) (And.intro (And.intro (And.intro (And.intro (And.intro (@mU _ _ ac_law01_FieldSplits_21.eq_1) (@mU _ _ ac_law01_FieldSplits_22.eq_1)) (@mU _ _ ac_law01_FieldSplits_23.eq_1)) (And.intro (And.intro (@mU _ _ ac_law01_FieldSplits_24.eq_1) (@mU _ _ ac_law01_FieldSplits_25.eq_1)) (@mU _ _ ac_law01_FieldSplits_26.eq_1))) (And.intro (And.intro (And.intro (@mU _ _ ac_law01_FieldSplits_27.eq_1) (@mU _ _ ac_law01_FieldSplits_28.eq_1)) (@mU _ _ ac_law01_FieldSplits_29.eq_1)) (And.intro @l_law01_FieldSplits_0.eq_1 @l_law01_FieldSplits_1.eq_1))) (And.intro (And.intro (And.intro (And.intro @l_law01_FieldSplits_2.eq_1 @l_law01_FieldSplits_6.eq_1) @l_law01_FieldSplits_7.eq_1) (And.intro @l_law01_FieldSplits_8.eq_1 @l_law01_FieldSplits_9.eq_1)) (And.intro (And.intro (And.intro @l_law01_FieldSplits_10.eq_1 @l_law01_FieldSplits_14.eq_1) @l_law01_FieldSplits_15.eq_1) (And.intro @l_law01_FieldSplits_16.eq_1 @l_law01_FieldSplits_20.eq_1)))))

/- scoria/scorialaw01.FieldRows -/
def l_law01_FieldRows_0 : List AOp := [⟨(some 4), .mv (.k (.bool false)), none, none, [], none⟩]
def ac_law01_FieldRows_0 : AC := .reg l_law01_FieldRows_0
def l_law01_FieldRows_1 : List AOp := [⟨(some 9), .mv (.t 0), none, none, [], none⟩,
  ⟨(some 10), .len (.t 9), none, none, [], none⟩,
  ⟨(some 11), .bin .gtr (.t 10) (.k (.int .i64 300)), none, none, [], none⟩,
  ⟨(some 12), .mv (.t 11), none, none, [], none⟩,
  ⟨(some 13), .mv (.t 1), (some (12, false)), none, [], none⟩,
  ⟨(some 14), .len (.t 13), (some (12, false)), none, [], none⟩,
  ⟨(some 15), .bin .gtr (.t 14) (.k (.int .i64 300)), (some (12, false)), none, [], none⟩,
  ⟨(some 16), .pick (.t 12) (.k (.bool true)) (.t 15), none, none, [], none⟩]
def ac_law01_FieldRows_1 : AC := .reg l_law01_FieldRows_1
def l_law01_FieldRows_2 : List AOp := [⟨(some 17), .call false 14 [], none, none, [], none⟩,
  ⟨(some 4), .mv (.t 17), none, none, [], none⟩]
def ac_law01_FieldRows_2 : AC := .reg l_law01_FieldRows_2
def ac_law01_FieldRows_3 : AC := .seq ac_law01_FieldRows_2 .ret
def ac_law01_FieldRows_4 : AC := .cond (.t 16) ac_law01_FieldRows_3 .skip
def ac_law01_FieldRows_5 : AC := .seq ac_law01_FieldRows_1 ac_law01_FieldRows_4
def l_law01_FieldRows_6 : List AOp := [⟨(some 19), .mv (.t 0), none, none, [], none⟩,
  ⟨(some 20), .mv (.t 1), none, none, [], none⟩,
  ⟨(some 21), .call false 20 [(.t 19), (.t 20)], none, none, [], none⟩,
  ⟨(some 18), .mv (.t 21), none, none, [], none⟩,
  ⟨(some 22), .ext 0 (.t 18), none, none, [], none⟩,
  ⟨(some 23), .ext 1 (.t 18), none, none, [], none⟩,
  ⟨(some 5), .mv (.t 22), none, none, [], none⟩,
  ⟨(some 6), .mv (.t 23), none, none, [], none⟩]
def ac_law01_FieldRows_6 : AC := .reg l_law01_FieldRows_6
def l_law01_FieldRows_7 : List AOp := [⟨(some 25), .mv (.t 0), none, none, [], none⟩,
  ⟨(some 26), .mv (.t 1), none, none, [], none⟩,
  ⟨(some 27), .call false 21 [(.t 25), (.t 26)], none, none, [], none⟩,
  ⟨(some 24), .mv (.t 27), none, none, [], none⟩,
  ⟨(some 28), .ext 0 (.t 24), none, none, [], none⟩,
  ⟨(some 29), .ext 1 (.t 24), none, none, [], none⟩,
  ⟨(some 7), .mv (.t 28), none, none, [], none⟩,
  ⟨(some 8), .mv (.t 29), none, none, [], none⟩]
def ac_law01_FieldRows_7 : AC := .reg l_law01_FieldRows_7
def l_law01_FieldRows_8 : List AOp := [⟨(some 30), .call false 14 [], none, none, [], none⟩,
  ⟨(some 31), .mv (.t 30), none, none, [], none⟩,
  ⟨(some 32), .mv (.t 5), (some (31, true)), none, [], none⟩,
  ⟨(some 33), .mv (.t 7), (some (31, true)), none, [], none⟩,
  ⟨(some 34), .bin .eql (.t 32) (.t 33), (some (31, true)), none, [], none⟩,
  ⟨(some 35), .pick (.t 31) (.t 34) (.k (.bool false)), none, none, [], none⟩,
  ⟨(some 36), .mv (.t 35), none, none, [], none⟩,
  ⟨(some 37), .mv (.t 6), (some (36, true)), none, [], none⟩,
  ⟨(some 38), .mv (.t 8), (some (36, true)), none, [], none⟩,
  ⟨(some 39), .bin .eql (.t 37) (.t 38), (some (36, true)), none, [], none⟩,
  ⟨(some 40), .pick (.t 36) (.t 39) (.k (.bool false)), none, none, [], none⟩,
  ⟨(some 4), .mv (.t 40), none, none, [], none⟩]
def ac_law01_FieldRows_8 : AC := .reg l_law01_FieldRows_8
def ac_law01_FieldRows_9 : AC := .seq ac_law01_FieldRows_8 .ret
def ac_law01_FieldRows_10 : AC := .seq ac_law01_FieldRows_7 ac_law01_FieldRows_9
def ac_law01_FieldRows_11 : AC := .seq ac_law01_FieldRows_6 ac_law01_FieldRows_10
def ac_law01_FieldRows_12 : AC := .seq ac_law01_FieldRows_5 ac_law01_FieldRows_11
def ac_law01_FieldRows_13 : AC := .seq ac_law01_FieldRows_0 ac_law01_FieldRows_12
def ac_law01_FieldRows : AC := ac_law01_FieldRows_13
theorem comp_law01_FieldRows : compF Try.prog [] (drawR Try.prog [] Try.f9.ntmps) [] 2 Try.f9 = some (ac_law01_FieldRows, [.t 4]) := by kernel_rfl
def U_law01_FieldRows := (And.intro (And.intro (And.intro (And.intro (And.intro @ac_law01_FieldRows.eq_1 (@mR _ _ ac_law01_FieldRows_0.eq_1)) (@mR _ _ ac_law01_FieldRows_1.eq_1)) (And.intro (And.intro (@mR _ _ ac_law01_FieldRows_2.eq_1) (@mU _ _ ac_law01_FieldRows_3.eq_1)) (@mU _ _ ac_law01_FieldRows_4.eq_1))) (And.intro (And.intro (And.intro (@mU _ _ ac_law01_FieldRows_5.eq_1) (@mR _ _ ac_law01_FieldRows_6.eq_1)) (@mR _ _ ac_law01_FieldRows_7.eq_1)) (And.intro (@mR _ _ ac_law01_FieldRows_8.eq_1) (@mU _ _ ac_law01_FieldRows_9.eq_1)))) (And.intro (And.intro (And.intro (And.intro (@mU _ _ ac_law01_FieldRows_10.eq_1) (@mU _ _ ac_law01_FieldRows_11.eq_1)) (@mU _ _ ac_law01_FieldRows_12.eq_1)) (And.intro (@mU _ _ ac_law01_FieldRows_13.eq_1) @l_law01_FieldRows_0.eq_1)) (And.intro (And.intro (And.intro @l_law01_FieldRows_1.eq_1 @l_law01_FieldRows_2.eq_1) @l_law01_FieldRows_6.eq_1) (And.intro @l_law01_FieldRows_7.eq_1 @l_law01_FieldRows_8.eq_1))))

/- scoria/scorialaw01.FieldOne -/
def l_law01_FieldOne_0 : List AOp := [⟨(some 4), .mv (.k (.bool false)), none, none, [], none⟩]
def ac_law01_FieldOne_0 : AC := .reg l_law01_FieldOne_0
def l_law01_FieldOne_1 : List AOp := [⟨(some 10), .mv (.t 1), none, none, [], none⟩,
  ⟨(some 11), .len (.t 10), none, none, [], none⟩,
  ⟨(some 12), .bin .gtr (.t 11) (.k (.int .i64 300)), none, none, [], none⟩]
def ac_law01_FieldOne_1 : AC := .reg l_law01_FieldOne_1
def l_law01_FieldOne_2 : List AOp := [⟨(some 13), .call false 14 [], none, none, [], none⟩,
  ⟨(some 4), .mv (.t 13), none, none, [], none⟩]
def ac_law01_FieldOne_2 : AC := .reg l_law01_FieldOne_2
def ac_law01_FieldOne_3 : AC := .seq ac_law01_FieldOne_2 .ret
def ac_law01_FieldOne_4 : AC := .cond (.t 12) ac_law01_FieldOne_3 .skip
def ac_law01_FieldOne_5 : AC := .seq ac_law01_FieldOne_1 ac_law01_FieldOne_4
def l_law01_FieldOne_6 : List AOp := [⟨(some 15), .mv (.t 0), none, none, [], none⟩,
  ⟨(some 16), .mv (.t 1), none, none, [], none⟩,
  ⟨(some 17), .call false 17 [(.t 15), (.t 16)], none, none, [], none⟩,
  ⟨(some 14), .mv (.t 17), none, none, [], none⟩,
  ⟨(some 18), .ext 0 (.t 14), none, none, [], none⟩,
  ⟨(some 19), .ext 1 (.t 14), none, none, [], none⟩,
  ⟨(some 20), .ext 2 (.t 14), none, none, [], none⟩,
  ⟨(some 5), .mv (.t 18), none, none, [], none⟩,
  ⟨(some 6), .mv (.t 19), none, none, [], none⟩,
  ⟨(some 7), .mv (.t 20), none, none, [], none⟩]
def ac_law01_FieldOne_6 : AC := .reg l_law01_FieldOne_6
def l_law01_FieldOne_7 : List AOp := [⟨(some 21), .mv (.t 7), none, none, [], none⟩,
  ⟨(some 22), .bin .neq (.t 21) (.k (.int .i64 0)), none, none, [], none⟩]
def ac_law01_FieldOne_7 : AC := .reg l_law01_FieldOne_7
def l_law01_FieldOne_8 : List AOp := [⟨(some 23), .call false 14 [], none, none, [], none⟩,
  ⟨(some 24), .mv (.t 23), none, none, [], none⟩,
  ⟨(some 25), .mv (.t 5), (some (24, true)), none, [], none⟩,
  ⟨(some 26), .len (.t 25), (some (24, true)), none, [], none⟩,
  ⟨(some 27), .bin .eql (.t 26) (.k (.int .i64 0)), (some (24, true)), none, [], none⟩,
  ⟨(some 28), .pick (.t 24) (.t 27) (.k (.bool false)), none, none, [], none⟩,
  ⟨(some 29), .mv (.t 28), none, none, [], none⟩,
  ⟨(some 30), .mv (.t 6), (some (29, true)), none, [], none⟩,
  ⟨(some 31), .bin .eql (.t 30) (.k (.str [])), (some (29, true)), none, [], none⟩,
  ⟨(some 32), .pick (.t 29) (.t 31) (.k (.bool false)), none, none, [], none⟩,
  ⟨(some 4), .mv (.t 32), none, none, [], none⟩]
def ac_law01_FieldOne_8 : AC := .reg l_law01_FieldOne_8
def ac_law01_FieldOne_9 : AC := .seq ac_law01_FieldOne_8 .ret
def ac_law01_FieldOne_10 : AC := .cond (.t 22) ac_law01_FieldOne_9 .skip
def ac_law01_FieldOne_11 : AC := .seq ac_law01_FieldOne_7 ac_law01_FieldOne_10
def l_law01_FieldOne_12 : List AOp := [⟨(some 34), .mv (.t 5), none, none, [], none⟩,
  ⟨(some 35), .mv (.t 1), none, none, [], none⟩,
  ⟨(some 36), .call false 20 [(.t 34), (.t 35)], none, none, [], none⟩,
  ⟨(some 33), .mv (.t 36), none, none, [], none⟩,
  ⟨(some 37), .ext 0 (.t 33), none, none, [], none⟩,
  ⟨(some 38), .ext 1 (.t 33), none, none, [], none⟩,
  ⟨(some 8), .mv (.t 37), none, none, [], none⟩,
  ⟨(some 9), .mv (.t 38), none, none, [], none⟩]
def ac_law01_FieldOne_12 : AC := .reg l_law01_FieldOne_12
def l_law01_FieldOne_13 : List AOp := [⟨(some 39), .call false 14 [], none, none, [], none⟩,
  ⟨(some 40), .mv (.t 39), none, none, [], none⟩,
  ⟨(some 41), .mv (.t 9), (some (40, true)), none, [], none⟩,
  ⟨(some 42), .bin .eql (.t 41) (.k (.int .i64 0)), (some (40, true)), none, [], none⟩,
  ⟨(some 43), .pick (.t 40) (.t 42) (.k (.bool false)), none, none, [], none⟩,
  ⟨(some 44), .mv (.t 43), none, none, [], none⟩,
  ⟨(some 45), .mv (.t 8), (some (44, true)), none, [], none⟩,
  ⟨(some 46), .mv (.t 6), (some (44, true)), none, [], none⟩,
  ⟨(some 47), .bin .add (.t 45) (.t 46), (some (44, true)), none, [], none⟩,
  ⟨(some 48), .mv (.t 0), (some (44, true)), none, [], none⟩,
  ⟨(some 49), .bin .eql (.t 47) (.t 48), (some (44, true)), none, [], none⟩,
  ⟨(some 50), .pick (.t 44) (.t 49) (.k (.bool false)), none, none, [], none⟩,
  ⟨(some 4), .mv (.t 50), none, none, [], none⟩]
def ac_law01_FieldOne_13 : AC := .reg l_law01_FieldOne_13
def ac_law01_FieldOne_14 : AC := .seq ac_law01_FieldOne_13 .ret
def ac_law01_FieldOne_15 : AC := .seq ac_law01_FieldOne_12 ac_law01_FieldOne_14
def ac_law01_FieldOne_16 : AC := .seq ac_law01_FieldOne_11 ac_law01_FieldOne_15
def ac_law01_FieldOne_17 : AC := .seq ac_law01_FieldOne_6 ac_law01_FieldOne_16
def ac_law01_FieldOne_18 : AC := .seq ac_law01_FieldOne_5 ac_law01_FieldOne_17
def ac_law01_FieldOne_19 : AC := .seq ac_law01_FieldOne_0 ac_law01_FieldOne_18
def ac_law01_FieldOne : AC := ac_law01_FieldOne_19
theorem comp_law01_FieldOne : compF Try.prog [] (drawR Try.prog [] Try.f10.ntmps) [] 2 Try.f10 = some (ac_law01_FieldOne, [.t 4]) := by kernel_rfl
def U_law01_FieldOne := (And.intro (And.intro (And.intro (And.intro (And.intro @ac_law01_FieldOne.eq_1 (@mR _ _ ac_law01_FieldOne_0.eq_1)) (And.intro (@mR _ _ ac_law01_FieldOne_1.eq_1) (@mR _ _ ac_law01_FieldOne_2.eq_1))) (And.intro (And.intro (@mU _ _ ac_law01_FieldOne_3.eq_1) (@mU _ _ ac_law01_FieldOne_4.eq_1)) (And.intro (@mU _ _ ac_law01_FieldOne_5.eq_1) (@mR _ _ ac_law01_FieldOne_6.eq_1)))) (And.intro (And.intro (And.intro (@mR _ _ ac_law01_FieldOne_7.eq_1) (@mR _ _ ac_law01_FieldOne_8.eq_1)) (And.intro (@mU _ _ ac_law01_FieldOne_9.eq_1) (@mU _ _ ac_law01_FieldOne_10.eq_1))) (And.intro (And.intro (@mU _ _ ac_law01_FieldOne_11.eq_1) (@mR _ _ ac_law01_FieldOne_12.eq_1)) (@mR _ _ ac_law01_FieldOne_13.eq_1)))) (And.intro (And.intro (And.intro (And.intro (@mU _ _ ac_law01_FieldOne_14.eq_1) (@mU _ _ ac_law01_FieldOne_15.eq_1)) (And.intro (@mU _ _ ac_law01_FieldOne_16.eq_1) (@mU _ _ ac_law01_FieldOne_17.eq_1))) (And.intro (And.intro (@mU _ _ ac_law01_FieldOne_18.eq_1) (@mU _ _ ac_law01_FieldOne_19.eq_1)) @l_law01_FieldOne_0.eq_1)) (And.intro (And.intro (And.intro @l_law01_FieldOne_1.eq_1 @l_law01_FieldOne_2.eq_1) (And.intro @l_law01_FieldOne_6.eq_1 @l_law01_FieldOne_7.eq_1)) (And.intro (And.intro @l_law01_FieldOne_8.eq_1 @l_law01_FieldOne_12.eq_1) @l_law01_FieldOne_13.eq_1))))

/- scoria/scorialaw01.FieldFills -/
def l_law01_FieldFills_0 : List AOp := [⟨(some 6), .mv (.k (.bool false)), none, none, [], none⟩]
def ac_law01_FieldFills_0 : AC := .reg l_law01_FieldFills_0
def l_law01_FieldFills_1 : List AOp := [⟨(some 11), .mv (.t 1), none, none, [], none⟩,
  ⟨(some 12), .bin .gtr (.t 11) (.k (.int .i64 20000)), none, none, [], none⟩,
  ⟨(some 13), .mv (.t 12), none, none, [], none⟩,
  ⟨(some 14), .mv (.t 0), (some (13, false)), none, [], none⟩,
  ⟨(some 15), .lens (.t 14), (some (13, false)), none, [], none⟩,
  ⟨(some 16), .bin .gtr (.t 15) (.k (.int .i64 20000)), (some (13, false)), none, [], none⟩,
  ⟨(some 17), .pick (.t 13) (.k (.bool true)) (.t 16), none, none, [], none⟩]
def ac_law01_FieldFills_1 : AC := .reg l_law01_FieldFills_1
def l_law01_FieldFills_2 : List AOp := [⟨(some 18), .call false 14 [], none, none, [], none⟩,
  ⟨(some 6), .mv (.t 18), none, none, [], none⟩]
def ac_law01_FieldFills_2 : AC := .reg l_law01_FieldFills_2
def ac_law01_FieldFills_3 : AC := .seq ac_law01_FieldFills_2 .ret
def ac_law01_FieldFills_4 : AC := .cond (.t 17) ac_law01_FieldFills_3 .skip
def ac_law01_FieldFills_5 : AC := .seq ac_law01_FieldFills_1 ac_law01_FieldFills_4
def l_law01_FieldFills_6 : List AOp := [⟨(some 20), .mv (.t 0), none, none, [], none⟩,
  ⟨(some 21), .mv (.t 1), none, none, [], none⟩,
  ⟨(some 22), .mv (.t 2), none, none, [], none⟩,
  ⟨(some 23), .call false 22 [(.t 20), (.t 21), (.t 22)], none, none, [], none⟩,
  ⟨(some 19), .mv (.t 23), none, none, [], none⟩,
  ⟨(some 24), .ext 0 (.t 19), none, none, [], none⟩,
  ⟨(some 25), .ext 1 (.t 19), none, none, [], none⟩,
  ⟨(some 7), .mv (.t 24), none, none, [], none⟩,
  ⟨(some 8), .mv (.t 25), none, none, [], none⟩]
def ac_law01_FieldFills_6 : AC := .reg l_law01_FieldFills_6
def l_law01_FieldFills_7 : List AOp := [⟨(some 27), .mv (.t 0), none, none, [], none⟩,
  ⟨(some 28), .mv (.t 1), none, none, [], none⟩,
  ⟨(some 29), .mv (.t 2), none, none, [], none⟩,
  ⟨(some 30), .call false 23 [(.t 27), (.t 28), (.t 29)], none, none, [], none⟩,
  ⟨(some 26), .mv (.t 30), none, none, [], none⟩,
  ⟨(some 31), .ext 0 (.t 26), none, none, [], none⟩,
  ⟨(some 32), .ext 1 (.t 26), none, none, [], none⟩,
  ⟨(some 9), .mv (.t 31), none, none, [], none⟩,
  ⟨(some 10), .mv (.t 32), none, none, [], none⟩]
def ac_law01_FieldFills_7 : AC := .reg l_law01_FieldFills_7
def l_law01_FieldFills_8 : List AOp := [⟨(some 33), .call false 14 [], none, none, [], none⟩,
  ⟨(some 34), .mv (.t 33), none, none, [], none⟩,
  ⟨(some 35), .mv (.t 7), (some (34, true)), none, [], none⟩,
  ⟨(some 36), .mv (.t 9), (some (34, true)), none, [], none⟩,
  ⟨(some 37), .bin .eql (.t 35) (.t 36), (some (34, true)), none, [], none⟩,
  ⟨(some 38), .pick (.t 34) (.t 37) (.k (.bool false)), none, none, [], none⟩,
  ⟨(some 39), .mv (.t 38), none, none, [], none⟩,
  ⟨(some 40), .mv (.t 8), (some (39, true)), none, [], none⟩,
  ⟨(some 41), .mv (.t 10), (some (39, true)), none, [], none⟩,
  ⟨(some 42), .bin .eql (.t 40) (.t 41), (some (39, true)), none, [], none⟩,
  ⟨(some 43), .pick (.t 39) (.t 42) (.k (.bool false)), none, none, [], none⟩,
  ⟨(some 6), .mv (.t 43), none, none, [], none⟩]
def ac_law01_FieldFills_8 : AC := .reg l_law01_FieldFills_8
def ac_law01_FieldFills_9 : AC := .seq ac_law01_FieldFills_8 .ret
def ac_law01_FieldFills_10 : AC := .seq ac_law01_FieldFills_7 ac_law01_FieldFills_9
def ac_law01_FieldFills_11 : AC := .seq ac_law01_FieldFills_6 ac_law01_FieldFills_10
def ac_law01_FieldFills_12 : AC := .seq ac_law01_FieldFills_5 ac_law01_FieldFills_11
def ac_law01_FieldFills_13 : AC := .seq ac_law01_FieldFills_0 ac_law01_FieldFills_12
def ac_law01_FieldFills : AC := ac_law01_FieldFills_13
theorem comp_law01_FieldFills : compF Try.prog [] (drawR Try.prog [] Try.f11.ntmps) [] 3 Try.f11 = some (ac_law01_FieldFills, [.t 6]) := by kernel_rfl
def U_law01_FieldFills := (And.intro (And.intro (And.intro (And.intro (And.intro @ac_law01_FieldFills.eq_1 (@mR _ _ ac_law01_FieldFills_0.eq_1)) (@mR _ _ ac_law01_FieldFills_1.eq_1)) (And.intro (And.intro (@mR _ _ ac_law01_FieldFills_2.eq_1) (@mU _ _ ac_law01_FieldFills_3.eq_1)) (@mU _ _ ac_law01_FieldFills_4.eq_1))) (And.intro (And.intro (And.intro (@mU _ _ ac_law01_FieldFills_5.eq_1) (@mR _ _ ac_law01_FieldFills_6.eq_1)) (@mR _ _ ac_law01_FieldFills_7.eq_1)) (And.intro (@mR _ _ ac_law01_FieldFills_8.eq_1) (@mU _ _ ac_law01_FieldFills_9.eq_1)))) (And.intro (And.intro (And.intro (And.intro (@mU _ _ ac_law01_FieldFills_10.eq_1) (@mU _ _ ac_law01_FieldFills_11.eq_1)) (@mU _ _ ac_law01_FieldFills_12.eq_1)) (And.intro (@mU _ _ ac_law01_FieldFills_13.eq_1) @l_law01_FieldFills_0.eq_1)) (And.intro (And.intro (And.intro @l_law01_FieldFills_1.eq_1 @l_law01_FieldFills_2.eq_1) @l_law01_FieldFills_6.eq_1) (And.intro @l_law01_FieldFills_7.eq_1 @l_law01_FieldFills_8.eq_1))))

/- scoria/field.Put -/
def l_field_Put_0 : List AOp := [⟨(some 4), .mv (.k (.str [])), none, none, [], none⟩,
  ⟨(some 5), .mv (.k (.int .i64 0)), none, none, [], none⟩]
def ac_field_Put_0 : AC := .reg l_field_Put_0
def l_field_Put_1 : List AOp := [⟨(some 7), .mv (.t 1), none, none, [], none⟩,
  ⟨(some 8), .call false 24 [(.t 7)], none, none, [], none⟩,
  ⟨(some 9), .un .not (.t 8), none, none, [], none⟩,
  ⟨(some 6), .mv (.t 9), none, none, [], none⟩]
def ac_field_Put_1 : AC := .reg l_field_Put_1
def l_field_Put_2 : List AOp := [⟨(some 4), .mv (.k (.str [])), none, none, [], none⟩,
  ⟨(some 5), .mv (.k (.int .i64 1)), none, none, [], none⟩]
def ac_field_Put_2 : AC := .reg l_field_Put_2
def ac_field_Put_3 : AC := .seq ac_field_Put_2 .ret
def l_field_Put_4 : List AOp := [⟨(some 11), .mv (.t 0), none, none, [], none⟩,
  ⟨(some 12), .mv (.t 1), none, none, [], none⟩,
  ⟨(some 13), .call false 25 [(.t 11), (.t 12)], none, none, [], none⟩,
  ⟨(some 14), .un .not (.t 13), none, none, [], none⟩,
  ⟨(some 10), .mv (.t 14), none, none, [], none⟩]
def ac_field_Put_4 : AC := .reg l_field_Put_4
def l_field_Put_5 : List AOp := [⟨(some 4), .mv (.k (.str [])), none, none, [], none⟩,
  ⟨(some 5), .mv (.k (.int .i64 2)), none, none, [], none⟩]
def ac_field_Put_5 : AC := .reg l_field_Put_5
def ac_field_Put_6 : AC := .seq ac_field_Put_5 .ret
def ac_field_Put_7 : AC := .cond (.t 10) ac_field_Put_6 .skip
def ac_field_Put_8 : AC := .seq ac_field_Put_4 ac_field_Put_7
def ac_field_Put_9 : AC := .cond (.t 6) ac_field_Put_3 ac_field_Put_8
def ac_field_Put_10 : AC := .seq ac_field_Put_1 ac_field_Put_9
def ac_field_Put_11 : AC := .block 0 ac_field_Put_10
def l_field_Put_12 : List AOp := [⟨(some 15), .mv (.t 0), none, none, [], none⟩,
  ⟨(some 16), .mv (.t 1), none, none, [], none⟩,
  ⟨(some 17), .call false 26 [(.t 15), (.t 16)], none, none, [], none⟩,
  ⟨(some 4), .mv (.t 17), none, none, [], none⟩,
  ⟨(some 5), .mv (.k (.int .i64 0)), none, none, [], none⟩]
def ac_field_Put_12 : AC := .reg l_field_Put_12
def ac_field_Put_13 : AC := .seq ac_field_Put_12 .ret
def ac_field_Put_14 : AC := .seq ac_field_Put_11 ac_field_Put_13
def ac_field_Put_15 : AC := .seq ac_field_Put_0 ac_field_Put_14
def ac_field_Put : AC := ac_field_Put_15
theorem comp_field_Put : compF Try.prog [] (drawR Try.prog [] Try.f12.ntmps) [] 2 Try.f12 = some (ac_field_Put, [.t 4, .t 5]) := by kernel_rfl
def U_field_Put := (And.intro (And.intro (And.intro (And.intro (And.intro @ac_field_Put.eq_1 (@mR _ _ ac_field_Put_0.eq_1)) (@mR _ _ ac_field_Put_1.eq_1)) (And.intro (And.intro (@mR _ _ ac_field_Put_2.eq_1) (@mU _ _ ac_field_Put_3.eq_1)) (@mR _ _ ac_field_Put_4.eq_1))) (And.intro (And.intro (And.intro (@mR _ _ ac_field_Put_5.eq_1) (@mU _ _ ac_field_Put_6.eq_1)) (@mU _ _ ac_field_Put_7.eq_1)) (And.intro (And.intro (@mU _ _ ac_field_Put_8.eq_1) (@mU _ _ ac_field_Put_9.eq_1)) (@mU _ _ ac_field_Put_10.eq_1)))) (And.intro (And.intro (And.intro (And.intro (@mU _ _ ac_field_Put_11.eq_1) (@mR _ _ ac_field_Put_12.eq_1)) (@mU _ _ ac_field_Put_13.eq_1)) (And.intro (And.intro (@mU _ _ ac_field_Put_14.eq_1) (@mU _ _ ac_field_Put_15.eq_1)) @l_field_Put_0.eq_1)) (And.intro (And.intro (And.intro @l_field_Put_1.eq_1 @l_field_Put_2.eq_1) @l_field_Put_4.eq_1) (And.intro @l_field_Put_5.eq_1 @l_field_Put_12.eq_1))))

/- scoria/scoriaref01.Put -/
def l_ref01_Put_0 : List AOp := [⟨(some 4), .mv (.k (.str [])), none, none, [], none⟩,
  ⟨(some 5), .mv (.k (.int .i64 0)), none, none, [], none⟩]
def ac_ref01_Put_0 : AC := .reg l_ref01_Put_0
def l_ref01_Put_1 : List AOp := [⟨(some 8), .mv (.t 1), none, none, [], none⟩,
  ⟨(some 9), .bin .lss (.t 8) (.k (.int .i64 1)), none, none, [], none⟩,
  ⟨(some 10), .mv (.t 9), none, none, [], none⟩,
  ⟨(some 11), .mv (.t 1), (some (10, false)), none, [], none⟩,
  ⟨(some 12), .bin .gtr (.t 11) (.k (.int .i64 8)), (some (10, false)), none, [], none⟩,
  ⟨(some 13), .pick (.t 10) (.k (.bool true)) (.t 12), none, none, [], none⟩]
def ac_ref01_Put_1 : AC := .reg l_ref01_Put_1
def l_ref01_Put_2 : List AOp := [⟨(some 4), .mv (.k (.str [])), none, none, [], none⟩,
  ⟨(some 5), .mv (.k (.int .i64 1)), none, none, [], none⟩]
def ac_ref01_Put_2 : AC := .reg l_ref01_Put_2
def ac_ref01_Put_3 : AC := .seq ac_ref01_Put_2 .ret
def ac_ref01_Put_4 : AC := .cond (.t 13) ac_ref01_Put_3 .skip
def ac_ref01_Put_5 : AC := .seq ac_ref01_Put_1 ac_ref01_Put_4
def l_ref01_Put_6 : List AOp := [⟨(some 15), .mv (.t 0), none, none, [], none⟩,
  ⟨(some 16), .mv (.t 1), none, none, [], none⟩,
  ⟨(some 17), .call false 27 [(.t 15), (.t 16)], none, none, [], none⟩,
  ⟨(some 14), .mv (.t 17), none, none, [], none⟩,
  ⟨(some 18), .ext 0 (.t 14), none, none, [], none⟩,
  ⟨(some 19), .ext 1 (.t 14), none, none, [], none⟩,
  ⟨(some 6), .mv (.t 18), none, none, [], none⟩,
  ⟨(some 7), .mv (.t 19), none, none, [], none⟩]
def ac_ref01_Put_6 : AC := .reg l_ref01_Put_6
def l_ref01_Put_7 : List AOp := [⟨(some 20), .mv (.t 7), none, none, [], none⟩,
  ⟨(some 21), .un .not (.t 20), none, none, [], none⟩]
def ac_ref01_Put_7 : AC := .reg l_ref01_Put_7
def l_ref01_Put_8 : List AOp := [⟨(some 4), .mv (.k (.str [])), none, none, [], none⟩,
  ⟨(some 5), .mv (.k (.int .i64 2)), none, none, [], none⟩]
def ac_ref01_Put_8 : AC := .reg l_ref01_Put_8
def ac_ref01_Put_9 : AC := .seq ac_ref01_Put_8 .ret
def ac_ref01_Put_10 : AC := .cond (.t 21) ac_ref01_Put_9 .skip
def ac_ref01_Put_11 : AC := .seq ac_ref01_Put_7 ac_ref01_Put_10
def l_ref01_Put_12 : List AOp := [⟨(some 22), .mv (.t 6), none, none, [], none⟩,
  ⟨(some 4), .mv (.t 22), none, none, [], none⟩,
  ⟨(some 5), .mv (.k (.int .i64 0)), none, none, [], none⟩]
def ac_ref01_Put_12 : AC := .reg l_ref01_Put_12
def ac_ref01_Put_13 : AC := .seq ac_ref01_Put_12 .ret
def ac_ref01_Put_14 : AC := .seq ac_ref01_Put_11 ac_ref01_Put_13
def ac_ref01_Put_15 : AC := .seq ac_ref01_Put_6 ac_ref01_Put_14
def ac_ref01_Put_16 : AC := .seq ac_ref01_Put_5 ac_ref01_Put_15
def ac_ref01_Put_17 : AC := .seq ac_ref01_Put_0 ac_ref01_Put_16
def ac_ref01_Put : AC := ac_ref01_Put_17
theorem comp_ref01_Put : compF Try.prog [] (drawR Try.prog [] Try.f13.ntmps) [] 2 Try.f13 = some (ac_ref01_Put, [.t 4, .t 5]) := by kernel_rfl
def U_ref01_Put := (And.intro (And.intro (And.intro (And.intro (And.intro @ac_ref01_Put.eq_1 (@mR _ _ ac_ref01_Put_0.eq_1)) (And.intro (@mR _ _ ac_ref01_Put_1.eq_1) (@mR _ _ ac_ref01_Put_2.eq_1))) (And.intro (And.intro (@mU _ _ ac_ref01_Put_3.eq_1) (@mU _ _ ac_ref01_Put_4.eq_1)) (@mU _ _ ac_ref01_Put_5.eq_1))) (And.intro (And.intro (And.intro (@mR _ _ ac_ref01_Put_6.eq_1) (@mR _ _ ac_ref01_Put_7.eq_1)) (@mR _ _ ac_ref01_Put_8.eq_1)) (And.intro (And.intro (@mU _ _ ac_ref01_Put_9.eq_1) (@mU _ _ ac_ref01_Put_10.eq_1)) (@mU _ _ ac_ref01_Put_11.eq_1)))) (And.intro (And.intro (And.intro (And.intro (@mR _ _ ac_ref01_Put_12.eq_1) (@mU _ _ ac_ref01_Put_13.eq_1)) (And.intro (@mU _ _ ac_ref01_Put_14.eq_1) (@mU _ _ ac_ref01_Put_15.eq_1))) (And.intro (And.intro (@mU _ _ ac_ref01_Put_16.eq_1) (@mU _ _ ac_ref01_Put_17.eq_1)) @l_ref01_Put_0.eq_1)) (And.intro (And.intro (And.intro @l_ref01_Put_1.eq_1 @l_ref01_Put_2.eq_1) @l_ref01_Put_6.eq_1) (And.intro (And.intro @l_ref01_Put_7.eq_1 @l_ref01_Put_8.eq_1) @l_ref01_Put_12.eq_1))))

/- scoria/scorialaw01.awake -/
def l_law01_awake_0 : List AOp := [⟨(some 0), .mv (.k (.bool false)), none, none, [], none⟩]
def ac_law01_awake_0 : AC := .reg l_law01_awake_0
def l_law01_awake_1 : List AOp := [⟨(some 8), .call false 12 [(.k (.int .u64 258)), (.k (.int .i64 2))], none, none, [], none⟩,
  ⟨(some 7), .mv (.t 8), none, none, [], none⟩,
  ⟨(some 9), .ext 0 (.t 7), none, none, [], none⟩,
  ⟨(some 10), .ext 1 (.t 7), none, none, [], none⟩,
  ⟨(some 1), .mv (.t 9), none, none, [], none⟩,
  ⟨(some 2), .mv (.t 10), none, none, [], none⟩]
def ac_law01_awake_1 : AC := .reg l_law01_awake_1
def l_law01_awake_2 : List AOp := [⟨(some 12), .call false 12 [(.k (.int .u64 256)), (.k (.int .i64 1))], none, none, [], none⟩,
  ⟨(some 11), .mv (.t 12), none, none, [], none⟩,
  ⟨(some 13), .ext 0 (.t 11), none, none, [], none⟩,
  ⟨(some 14), .ext 1 (.t 11), none, none, [], none⟩,
  ⟨(some 3), .mv (.t 13), none, none, [], none⟩,
  ⟨(some 4), .mv (.t 14), none, none, [], none⟩]
def ac_law01_awake_2 : AC := .reg l_law01_awake_2
def l_law01_awake_3 : List AOp := [⟨(some 16), .call false 15 [(.k (.str [2, 1, 0])), (.k (.int .i64 0)), (.k (.int .i64 2))], none, none, [], none⟩,
  ⟨(some 15), .mv (.t 16), none, none, [], none⟩,
  ⟨(some 17), .ext 0 (.t 15), none, none, [], none⟩,
  ⟨(some 18), .ext 1 (.t 15), none, none, [], none⟩,
  ⟨(some 5), .mv (.t 17), none, none, [], none⟩,
  ⟨(some 6), .mv (.t 18), none, none, [], none⟩]
def ac_law01_awake_3 : AC := .reg l_law01_awake_3
def l_law01_awake_4 : List AOp := [⟨(some 19), .mv (.t 1), none, none, [], none⟩,
  ⟨(some 20), .bin .eql (.t 19) (.k (.str [2, 1])), none, none, [], none⟩,
  ⟨(some 21), .mv (.t 20), none, none, [], none⟩,
  ⟨(some 22), .mv (.t 2), (some (21, true)), none, [], none⟩,
  ⟨(some 23), .bin .eql (.t 22) (.k (.int .i64 0)), (some (21, true)), none, [], none⟩,
  ⟨(some 24), .pick (.t 21) (.t 23) (.k (.bool false)), none, none, [], none⟩,
  ⟨(some 25), .mv (.t 24), none, none, [], none⟩,
  ⟨(some 26), .mv (.t 4), (some (25, true)), none, [], none⟩,
  ⟨(some 27), .bin .eql (.t 26) (.k (.int .i64 2)), (some (25, true)), none, [], none⟩,
  ⟨(some 28), .pick (.t 25) (.t 27) (.k (.bool false)), none, none, [], none⟩,
  ⟨(some 29), .mv (.t 28), none, none, [], none⟩,
  ⟨(some 30), .mv (.t 5), (some (29, true)), none, [], none⟩,
  ⟨(some 31), .bin .eql (.t 30) (.k (.int .u64 258)), (some (29, true)), none, [], none⟩,
  ⟨(some 32), .pick (.t 29) (.t 31) (.k (.bool false)), none, none, [], none⟩,
  ⟨(some 33), .mv (.t 32), none, none, [], none⟩,
  ⟨(some 34), .mv (.t 6), (some (33, true)), none, [], none⟩,
  ⟨(some 35), .bin .eql (.t 34) (.k (.int .i64 0)), (some (33, true)), none, [], none⟩,
  ⟨(some 36), .pick (.t 33) (.t 35) (.k (.bool false)), none, none, [], none⟩,
  ⟨(some 0), .mv (.t 36), none, none, [], none⟩]
def ac_law01_awake_4 : AC := .reg l_law01_awake_4
def ac_law01_awake_5 : AC := .seq ac_law01_awake_4 .ret
def ac_law01_awake_6 : AC := .seq ac_law01_awake_3 ac_law01_awake_5
def ac_law01_awake_7 : AC := .seq ac_law01_awake_2 ac_law01_awake_6
def ac_law01_awake_8 : AC := .seq ac_law01_awake_1 ac_law01_awake_7
def ac_law01_awake_9 : AC := .seq ac_law01_awake_0 ac_law01_awake_8
def ac_law01_awake : AC := ac_law01_awake_9
theorem comp_law01_awake : compF Try.prog [] (drawR Try.prog [] Try.f14.ntmps) [] 0 Try.f14 = some (ac_law01_awake, [.t 0]) := by kernel_rfl
def U_law01_awake := (And.intro (And.intro (And.intro (And.intro @ac_law01_awake.eq_1 (@mR _ _ ac_law01_awake_0.eq_1)) (And.intro (@mR _ _ ac_law01_awake_1.eq_1) (@mR _ _ ac_law01_awake_2.eq_1))) (And.intro (And.intro (@mR _ _ ac_law01_awake_3.eq_1) (@mR _ _ ac_law01_awake_4.eq_1)) (And.intro (@mU _ _ ac_law01_awake_5.eq_1) (@mU _ _ ac_law01_awake_6.eq_1)))) (And.intro (And.intro (And.intro (@mU _ _ ac_law01_awake_7.eq_1) (@mU _ _ ac_law01_awake_8.eq_1)) (And.intro (@mU _ _ ac_law01_awake_9.eq_1) @l_law01_awake_0.eq_1)) (And.intro (And.intro @l_law01_awake_1.eq_1 @l_law01_awake_2.eq_1) (And.intro @l_law01_awake_3.eq_1 @l_law01_awake_4.eq_1))))

/- scoria/field.Get -/
def l_field_Get_0 : List AOp := [⟨(some 6), .mv (.k (.int .u64 0)), none, none, [], none⟩,
  ⟨(some 7), .mv (.k (.int .i64 0)), none, none, [], none⟩]
def ac_field_Get_0 : AC := .reg l_field_Get_0
def l_field_Get_1 : List AOp := [⟨(some 11), .mv (.t 2), none, none, [], none⟩,
  ⟨(some 12), .call false 24 [(.t 11)], none, none, [], none⟩,
  ⟨(some 13), .un .not (.t 12), none, none, [], none⟩,
  ⟨(some 14), .mv (.t 13), none, none, [], none⟩,
  ⟨(some 15), .mv (.t 1), (some (14, false)), none, [], none⟩,
  ⟨(some 16), .bin .lss (.t 15) (.k (.int .i64 0)), (some (14, false)), none, [], none⟩,
  ⟨(some 17), .pick (.t 14) (.k (.bool true)) (.t 16), none, none, [], none⟩,
  ⟨(some 10), .mv (.t 17), none, none, [], none⟩]
def ac_field_Get_1 : AC := .reg l_field_Get_1
def l_field_Get_2 : List AOp := [⟨(some 6), .mv (.k (.int .u64 0)), none, none, [], none⟩,
  ⟨(some 7), .mv (.k (.int .i64 1)), none, none, [], none⟩]
def ac_field_Get_2 : AC := .reg l_field_Get_2
def ac_field_Get_3 : AC := .seq ac_field_Get_2 .ret
def l_field_Get_4 : List AOp := [⟨(some 19), .mv (.t 1), none, none, [], none⟩,
  ⟨(some 20), .mv (.t 0), none, none, [], none⟩,
  ⟨(some 21), .lens (.t 20), none, none, [], none⟩,
  ⟨(some 22), .bin .gtr (.t 19) (.t 21), none, none, [], none⟩,
  ⟨(some 23), .mv (.t 22), none, none, [], none⟩,
  ⟨(some 24), .mv (.t 0), (some (23, false)), none, [], none⟩,
  ⟨(some 25), .lens (.t 24), (some (23, false)), none, [], none⟩,
  ⟨(some 26), .mv (.t 1), (some (23, false)), none, [], none⟩,
  ⟨(some 27), .bin .sub (.t 25) (.t 26), (some (23, false)), none, [], none⟩,
  ⟨(some 28), .mv (.t 2), (some (23, false)), none, [], none⟩,
  ⟨(some 29), .bin .lss (.t 27) (.t 28), (some (23, false)), none, [], none⟩,
  ⟨(some 30), .pick (.t 23) (.k (.bool true)) (.t 29), none, none, [], none⟩,
  ⟨(some 18), .mv (.t 30), none, none, [], none⟩]
def ac_field_Get_4 : AC := .reg l_field_Get_4
def l_field_Get_5 : List AOp := [⟨(some 6), .mv (.k (.int .u64 0)), none, none, [], none⟩,
  ⟨(some 7), .mv (.k (.int .i64 5)), none, none, [], none⟩]
def ac_field_Get_5 : AC := .reg l_field_Get_5
def ac_field_Get_6 : AC := .seq ac_field_Get_5 .ret
def ac_field_Get_7 : AC := .cond (.t 18) ac_field_Get_6 .skip
def ac_field_Get_8 : AC := .seq ac_field_Get_4 ac_field_Get_7
def ac_field_Get_9 : AC := .cond (.t 10) ac_field_Get_3 ac_field_Get_8
def ac_field_Get_10 : AC := .seq ac_field_Get_1 ac_field_Get_9
def ac_field_Get_11 : AC := .block 0 ac_field_Get_10
def l_field_Get_12 : List AOp := [⟨(some 8), .mv (.k (.int .u64 0)), none, none, [], none⟩]
def ac_field_Get_12 : AC := .reg l_field_Get_12
def l_field_Get_13 : List AOp := [⟨(some 31), .mv (.t 2), none, none, [], none⟩,
  ⟨(some 32), .bin .sub (.t 31) (.k (.int .i64 1)), none, none, [], none⟩,
  ⟨(some 9), .mv (.t 32), none, none, [], none⟩]
def ac_field_Get_13 : AC := .reg l_field_Get_13
def l_field_Get_14 : List AOp := [⟨(some 33), .mv (.t 9), none, none, [], none⟩,
  ⟨(some 34), .bin .geq (.t 33) (.k (.int .i64 0)), none, none, [], none⟩]
def ac_field_Get_14 : AC := .reg l_field_Get_14
def ac_field_Get_15 : AC := .cond (.t 34) .skip (.exit 1)
def ac_field_Get_16 : AC := .seq ac_field_Get_14 ac_field_Get_15
def l_field_Get_17 : List AOp := [⟨(some 37), .mv (.t 8), none, none, [], none⟩,
  ⟨(some 38), .bin .shl (.t 37) (.k (.int .u64 8)), none, none, [], none⟩,
  ⟨(some 39), .mv (.t 0), none, none, [], none⟩,
  ⟨(some 40), .mv (.t 1), none, none, [], none⟩,
  ⟨(some 41), .mv (.t 9), none, none, [], none⟩,
  ⟨(some 42), .bin .add (.t 40) (.t 41), none, none, [], none⟩,
  ⟨(some 43), .idxs (.t 39) (.t 42), none, none, [], none⟩,
  ⟨(some 44), .conv .u64 (.t 43), none, none, [], none⟩,
  ⟨(some 45), .bin .or (.t 38) (.t 44), none, none, [], none⟩,
  ⟨(some 8), .mv (.t 45), none, none, [], none⟩]
def ac_field_Get_17 : AC := .reg l_field_Get_17
def ac_field_Get_18 : AC := .block 2 ac_field_Get_17
def l_field_Get_19 : List AOp := [⟨(some 35), .mv (.t 9), none, none, [], none⟩,
  ⟨(some 36), .bin .sub (.t 35) (.k (.int .i64 1)), none, none, [], none⟩,
  ⟨(some 9), .mv (.t 36), none, none, [], none⟩]
def ac_field_Get_19 : AC := .reg l_field_Get_19
def ac_field_Get_20 : AC := .seq ac_field_Get_18 ac_field_Get_19
def ac_field_Get_21 : AC := .seq ac_field_Get_16 ac_field_Get_20
def ac_field_Get_22 : AC := .loop [0, 1, 8, 9] 0 ac_field_Get_21
def ac_field_Get_23 : AC := .block 1 ac_field_Get_22
def ac_field_Get_24 : AC := .seq ac_field_Get_13 ac_field_Get_23
def l_field_Get_25 : List AOp := [⟨(some 46), .mv (.t 8), none, none, [], none⟩,
  ⟨(some 6), .mv (.t 46), none, none, [], none⟩,
  ⟨(some 7), .mv (.k (.int .i64 0)), none, none, [], none⟩]
def ac_field_Get_25 : AC := .reg l_field_Get_25
def ac_field_Get_26 : AC := .seq ac_field_Get_25 .ret
def ac_field_Get_27 : AC := .seq ac_field_Get_24 ac_field_Get_26
def ac_field_Get_28 : AC := .seq ac_field_Get_12 ac_field_Get_27
def ac_field_Get_29 : AC := .seq ac_field_Get_11 ac_field_Get_28
def ac_field_Get_30 : AC := .seq ac_field_Get_0 ac_field_Get_29
def ac_field_Get : AC := ac_field_Get_30
theorem comp_field_Get : compF Try.prog [] (drawR Try.prog [] Try.f15.ntmps) [([0, 1, 8, 9], 0)] 3 Try.f15 = some (ac_field_Get, [.t 6, .t 7]) := by kernel_rfl
def U_field_Get := (And.intro (And.intro (And.intro (And.intro (And.intro (And.intro @ac_field_Get.eq_1 (@mR _ _ ac_field_Get_0.eq_1)) (@mR _ _ ac_field_Get_1.eq_1)) (And.intro (And.intro (@mR _ _ ac_field_Get_2.eq_1) (@mU _ _ ac_field_Get_3.eq_1)) (@mR _ _ ac_field_Get_4.eq_1))) (And.intro (And.intro (And.intro (@mR _ _ ac_field_Get_5.eq_1) (@mU _ _ ac_field_Get_6.eq_1)) (@mU _ _ ac_field_Get_7.eq_1)) (And.intro (@mU _ _ ac_field_Get_8.eq_1) (@mU _ _ ac_field_Get_9.eq_1)))) (And.intro (And.intro (And.intro (And.intro (@mU _ _ ac_field_Get_10.eq_1) (@mU _ _ ac_field_Get_11.eq_1)) (@mR _ _ ac_field_Get_12.eq_1)) (And.intro (And.intro (@mR _ _ ac_field_Get_13.eq_1) (@mR _ _ ac_field_Get_14.eq_1)) (@mU _ _ ac_field_Get_15.eq_1))) (And.intro (And.intro (And.intro (@mU _ _ ac_field_Get_16.eq_1) (@mR _ _ ac_field_Get_17.eq_1)) (@mU _ _ ac_field_Get_18.eq_1)) (And.intro (@mR _ _ ac_field_Get_19.eq_1) (@mU _ _ ac_field_Get_20.eq_1))))) (And.intro (And.intro (And.intro (And.intro (And.intro (@mU _ _ ac_field_Get_21.eq_1) (@mU _ _ ac_field_Get_22.eq_1)) (@mU _ _ ac_field_Get_23.eq_1)) (And.intro (And.intro (@mU _ _ ac_field_Get_24.eq_1) (@mR _ _ ac_field_Get_25.eq_1)) (@mU _ _ ac_field_Get_26.eq_1))) (And.intro (And.intro (And.intro (@mU _ _ ac_field_Get_27.eq_1) (@mU _ _ ac_field_Get_28.eq_1)) (@mU _ _ ac_field_Get_29.eq_1)) (And.intro (@mU _ _ ac_field_Get_30.eq_1) @l_field_Get_0.eq_1))) (And.intro (And.intro (And.intro (And.intro @l_field_Get_1.eq_1 @l_field_Get_2.eq_1) @l_field_Get_4.eq_1) (And.intro @l_field_Get_5.eq_1 @l_field_Get_12.eq_1)) (And.intro (And.intro (And.intro @l_field_Get_13.eq_1 @l_field_Get_14.eq_1) @l_field_Get_17.eq_1) (And.intro @l_field_Get_19.eq_1 @l_field_Get_25.eq_1)))))

/- scoria/scoriaref01.Get -/
def l_ref01_Get_0 : List AOp := [⟨(some 6), .mv (.k (.int .u64 0)), none, none, [], none⟩,
  ⟨(some 7), .mv (.k (.int .i64 0)), none, none, [], none⟩]
def ac_ref01_Get_0 : AC := .reg l_ref01_Get_0
def l_ref01_Get_1 : List AOp := [⟨(some 11), .mv (.t 2), none, none, [], none⟩,
  ⟨(some 12), .bin .lss (.t 11) (.k (.int .i64 1)), none, none, [], none⟩,
  ⟨(some 13), .mv (.t 12), none, none, [], none⟩,
  ⟨(some 14), .mv (.t 2), (some (13, false)), none, [], none⟩,
  ⟨(some 15), .bin .gtr (.t 14) (.k (.int .i64 8)), (some (13, false)), none, [], none⟩,
  ⟨(some 16), .pick (.t 13) (.k (.bool true)) (.t 15), none, none, [], none⟩,
  ⟨(some 17), .mv (.t 16), none, none, [], none⟩,
  ⟨(some 18), .mv (.t 1), (some (17, false)), none, [], none⟩,
  ⟨(some 19), .bin .lss (.t 18) (.k (.int .i64 0)), (some (17, false)), none, [], none⟩,
  ⟨(some 20), .pick (.t 17) (.k (.bool true)) (.t 19), none, none, [], none⟩]
def ac_ref01_Get_1 : AC := .reg l_ref01_Get_1
def l_ref01_Get_2 : List AOp := [⟨(some 6), .mv (.k (.int .u64 0)), none, none, [], none⟩,
  ⟨(some 7), .mv (.k (.int .i64 1)), none, none, [], none⟩]
def ac_ref01_Get_2 : AC := .reg l_ref01_Get_2
def ac_ref01_Get_3 : AC := .seq ac_ref01_Get_2 .ret
def ac_ref01_Get_4 : AC := .cond (.t 20) ac_ref01_Get_3 .skip
def ac_ref01_Get_5 : AC := .seq ac_ref01_Get_1 ac_ref01_Get_4
def l_ref01_Get_6 : List AOp := [⟨(some 21), .mv (.t 1), none, none, [], none⟩,
  ⟨(some 22), .mv (.t 0), none, none, [], none⟩,
  ⟨(some 23), .lens (.t 22), none, none, [], none⟩,
  ⟨(some 24), .bin .gtr (.t 21) (.t 23), none, none, [], none⟩,
  ⟨(some 25), .mv (.t 24), none, none, [], none⟩,
  ⟨(some 26), .mv (.t 2), (some (25, false)), none, [], none⟩,
  ⟨(some 27), .mv (.t 0), (some (25, false)), none, [], none⟩,
  ⟨(some 28), .lens (.t 27), (some (25, false)), none, [], none⟩,
  ⟨(some 29), .mv (.t 1), (some (25, false)), none, [], none⟩,
  ⟨(some 30), .bin .sub (.t 28) (.t 29), (some (25, false)), none, [], none⟩,
  ⟨(some 31), .bin .gtr (.t 26) (.t 30), (some (25, false)), none, [], none⟩,
  ⟨(some 32), .pick (.t 25) (.k (.bool true)) (.t 31), none, none, [], none⟩]
def ac_ref01_Get_6 : AC := .reg l_ref01_Get_6
def l_ref01_Get_7 : List AOp := [⟨(some 6), .mv (.k (.int .u64 0)), none, none, [], none⟩,
  ⟨(some 7), .mv (.k (.int .i64 5)), none, none, [], none⟩]
def ac_ref01_Get_7 : AC := .reg l_ref01_Get_7
def ac_ref01_Get_8 : AC := .seq ac_ref01_Get_7 .ret
def ac_ref01_Get_9 : AC := .cond (.t 32) ac_ref01_Get_8 .skip
def ac_ref01_Get_10 : AC := .seq ac_ref01_Get_6 ac_ref01_Get_9
def l_ref01_Get_11 : List AOp := [⟨(some 8), .mv (.k (.int .u64 0)), none, none, [], none⟩,
  ⟨(some 9), .mv (.k (.int .u64 1)), none, none, [], none⟩]
def ac_ref01_Get_11 : AC := .reg l_ref01_Get_11
def l_ref01_Get_12 : List AOp := [⟨(some 10), .mv (.k (.int .i64 0)), none, none, [], none⟩]
def ac_ref01_Get_12 : AC := .reg l_ref01_Get_12
def l_ref01_Get_13 : List AOp := [⟨(some 33), .mv (.t 10), none, none, [], none⟩,
  ⟨(some 34), .mv (.t 2), none, none, [], none⟩,
  ⟨(some 35), .bin .lss (.t 33) (.t 34), none, none, [], none⟩]
def ac_ref01_Get_13 : AC := .reg l_ref01_Get_13
def ac_ref01_Get_14 : AC := .cond (.t 35) .skip (.exit 0)
def ac_ref01_Get_15 : AC := .seq ac_ref01_Get_13 ac_ref01_Get_14
def l_ref01_Get_16 : List AOp := [⟨(some 38), .mv (.t 8), none, none, [], none⟩,
  ⟨(some 39), .mv (.t 9), none, none, [], none⟩,
  ⟨(some 40), .mv (.t 0), none, none, [], none⟩,
  ⟨(some 41), .mv (.t 1), none, none, [], none⟩,
  ⟨(some 42), .mv (.t 10), none, none, [], none⟩,
  ⟨(some 43), .bin .add (.t 41) (.t 42), none, none, [], none⟩,
  ⟨(some 44), .idxs (.t 40) (.t 43), none, none, [], none⟩,
  ⟨(some 45), .conv .u64 (.t 44), none, none, [], none⟩,
  ⟨(some 46), .bin .mul (.t 39) (.t 45), none, none, [], none⟩,
  ⟨(some 47), .bin .add (.t 38) (.t 46), none, none, [], none⟩,
  ⟨(some 8), .mv (.t 47), none, none, [], none⟩]
def ac_ref01_Get_16 : AC := .reg l_ref01_Get_16
def l_ref01_Get_17 : List AOp := [⟨(some 48), .mv (.t 9), none, none, [], none⟩,
  ⟨(some 49), .bin .mul (.t 48) (.k (.int .u64 256)), none, none, [], none⟩,
  ⟨(some 9), .mv (.t 49), none, none, [], none⟩]
def ac_ref01_Get_17 : AC := .reg l_ref01_Get_17
def ac_ref01_Get_18 : AC := .seq ac_ref01_Get_16 ac_ref01_Get_17
def ac_ref01_Get_19 : AC := .block 1 ac_ref01_Get_18
def l_ref01_Get_20 : List AOp := [⟨(some 36), .mv (.t 10), none, none, [], none⟩,
  ⟨(some 37), .bin .add (.t 36) (.k (.int .i64 1)), none, none, [], none⟩,
  ⟨(some 10), .mv (.t 37), none, none, [], none⟩]
def ac_ref01_Get_20 : AC := .reg l_ref01_Get_20
def ac_ref01_Get_21 : AC := .seq ac_ref01_Get_19 ac_ref01_Get_20
def ac_ref01_Get_22 : AC := .seq ac_ref01_Get_15 ac_ref01_Get_21
def ac_ref01_Get_23 : AC := .loop [0, 1, 2, 8, 9, 10] 0 ac_ref01_Get_22
def ac_ref01_Get_24 : AC := .block 0 ac_ref01_Get_23
def ac_ref01_Get_25 : AC := .seq ac_ref01_Get_12 ac_ref01_Get_24
def l_ref01_Get_26 : List AOp := [⟨(some 50), .mv (.t 8), none, none, [], none⟩,
  ⟨(some 6), .mv (.t 50), none, none, [], none⟩,
  ⟨(some 7), .mv (.k (.int .i64 0)), none, none, [], none⟩]
def ac_ref01_Get_26 : AC := .reg l_ref01_Get_26
def ac_ref01_Get_27 : AC := .seq ac_ref01_Get_26 .ret
def ac_ref01_Get_28 : AC := .seq ac_ref01_Get_25 ac_ref01_Get_27
def ac_ref01_Get_29 : AC := .seq ac_ref01_Get_11 ac_ref01_Get_28
def ac_ref01_Get_30 : AC := .seq ac_ref01_Get_10 ac_ref01_Get_29
def ac_ref01_Get_31 : AC := .seq ac_ref01_Get_5 ac_ref01_Get_30
def ac_ref01_Get_32 : AC := .seq ac_ref01_Get_0 ac_ref01_Get_31
def ac_ref01_Get : AC := ac_ref01_Get_32
theorem comp_ref01_Get : compF Try.prog [] (drawR Try.prog [] Try.f16.ntmps) [([0, 1, 2, 8, 9, 10], 0)] 3 Try.f16 = some (ac_ref01_Get, [.t 6, .t 7]) := by kernel_rfl
def U_ref01_Get := (And.intro (And.intro (And.intro (And.intro (And.intro (And.intro @ac_ref01_Get.eq_1 (@mR _ _ ac_ref01_Get_0.eq_1)) (@mR _ _ ac_ref01_Get_1.eq_1)) (And.intro (And.intro (@mR _ _ ac_ref01_Get_2.eq_1) (@mU _ _ ac_ref01_Get_3.eq_1)) (@mU _ _ ac_ref01_Get_4.eq_1))) (And.intro (And.intro (And.intro (@mU _ _ ac_ref01_Get_5.eq_1) (@mR _ _ ac_ref01_Get_6.eq_1)) (@mR _ _ ac_ref01_Get_7.eq_1)) (And.intro (And.intro (@mU _ _ ac_ref01_Get_8.eq_1) (@mU _ _ ac_ref01_Get_9.eq_1)) (@mU _ _ ac_ref01_Get_10.eq_1)))) (And.intro (And.intro (And.intro (And.intro (@mR _ _ ac_ref01_Get_11.eq_1) (@mR _ _ ac_ref01_Get_12.eq_1)) (@mR _ _ ac_ref01_Get_13.eq_1)) (And.intro (And.intro (@mU _ _ ac_ref01_Get_14.eq_1) (@mU _ _ ac_ref01_Get_15.eq_1)) (@mR _ _ ac_ref01_Get_16.eq_1))) (And.intro (And.intro (And.intro (@mR _ _ ac_ref01_Get_17.eq_1) (@mU _ _ ac_ref01_Get_18.eq_1)) (@mU _ _ ac_ref01_Get_19.eq_1)) (And.intro (@mR _ _ ac_ref01_Get_20.eq_1) (@mU _ _ ac_ref01_Get_21.eq_1))))) (And.intro (And.intro (And.intro (And.intro (And.intro (@mU _ _ ac_ref01_Get_22.eq_1) (@mU _ _ ac_ref01_Get_23.eq_1)) (@mU _ _ ac_ref01_Get_24.eq_1)) (And.intro (And.intro (@mU _ _ ac_ref01_Get_25.eq_1) (@mR _ _ ac_ref01_Get_26.eq_1)) (@mU _ _ ac_ref01_Get_27.eq_1))) (And.intro (And.intro (And.intro (@mU _ _ ac_ref01_Get_28.eq_1) (@mU _ _ ac_ref01_Get_29.eq_1)) (@mU _ _ ac_ref01_Get_30.eq_1)) (And.intro (And.intro (@mU _ _ ac_ref01_Get_31.eq_1) (@mU _ _ ac_ref01_Get_32.eq_1)) @l_ref01_Get_0.eq_1))) (And.intro (And.intro (And.intro (And.intro @l_ref01_Get_1.eq_1 @l_ref01_Get_2.eq_1) @l_ref01_Get_6.eq_1) (And.intro (And.intro @l_ref01_Get_7.eq_1 @l_ref01_Get_11.eq_1) @l_ref01_Get_12.eq_1)) (And.intro (And.intro (And.intro @l_ref01_Get_13.eq_1 @l_ref01_Get_16.eq_1) @l_ref01_Get_17.eq_1) (And.intro @l_ref01_Get_20.eq_1 @l_ref01_Get_26.eq_1)))))

/- scoria/field.Take -/
def l_field_Take_0 : List AOp := [⟨(some 4), .nilown 1, none, none, [], none⟩,
  ⟨(some 5), .mv (.k (.str [])), none, none, [], none⟩,
  ⟨(some 6), .mv (.k (.int .i64 0)), none, none, [], none⟩]
def ac_field_Take_0 : AC := .reg l_field_Take_0
def l_field_Take_1 : List AOp := [⟨(some 12), .mv (.t 1), none, none, [], none⟩,
  ⟨(some 13), .call false 28 [(.t 12), (.k (.fn (.func 29) [] []))], none, none, [], none⟩]
def ac_field_Take_1 : AC := .reg l_field_Take_1
def l_field_Take_2 : List AOp := [⟨(some 4), .nilown 1, none, none, [], none⟩,
  ⟨(some 5), .mv (.k (.str [])), none, none, [], none⟩,
  ⟨(some 6), .mv (.k (.int .i64 1)), none, none, [], none⟩]
def ac_field_Take_2 : AC := .reg l_field_Take_2
def ac_field_Take_3 : AC := .seq ac_field_Take_2 .ret
def ac_field_Take_4 : AC := .cond (.t 13) ac_field_Take_3 .skip
def ac_field_Take_5 : AC := .seq ac_field_Take_1 ac_field_Take_4
def l_field_Take_6 : List AOp := [⟨(some 7), .mv (.k (.int .i64 0)), none, none, [], none⟩]
def ac_field_Take_6 : AC := .reg l_field_Take_6
def l_field_Take_7 : List AOp := [⟨(some 14), .mv (.t 1), none, none, [], none⟩,
  ⟨(some 15), .len (.t 14), none, none, [], none⟩,
  ⟨(some 16), .mv (.k (.int .i64 0)), none, none, [], none⟩]
def ac_field_Take_7 : AC := .reg l_field_Take_7
def l_field_Take_8 : List AOp := [⟨(some 17), .bin .lss (.t 16) (.t 15), none, none, [], none⟩]
def ac_field_Take_8 : AC := .reg l_field_Take_8
def ac_field_Take_9 : AC := .cond (.t 17) .skip (.exit 0)
def l_field_Take_10 : List AOp := [⟨(some 18), .isl 1 (.t 14) (.t 16), none, none, [], none⟩,
  ⟨(some 19), .load none (.t 18), none, none, [], none⟩,
  ⟨(some 9), .mv (.t 19), none, none, [], none⟩]
def ac_field_Take_10 : AC := .reg l_field_Take_10
def l_field_Take_11 : List AOp := [⟨(some 21), .mv (.t 0), none, none, [], none⟩,
  ⟨(some 22), .mv (.t 7), none, none, [], none⟩,
  ⟨(some 23), .mv (.t 9), none, none, [], none⟩,
  ⟨(some 24), .call false 15 [(.t 21), (.t 22), (.t 23)], none, none, [], none⟩,
  ⟨(some 20), .mv (.t 24), none, none, [], none⟩,
  ⟨(some 25), .ext 0 (.t 20), none, none, [], none⟩,
  ⟨(some 26), .ext 1 (.t 20), none, none, [], none⟩,
  ⟨(some 10), .mv (.t 25), none, none, [], none⟩,
  ⟨(some 11), .mv (.t 26), none, none, [], none⟩]
def ac_field_Take_11 : AC := .reg l_field_Take_11
def l_field_Take_12 : List AOp := [⟨(some 27), .mv (.t 11), none, none, [], none⟩,
  ⟨(some 28), .bin .neq (.t 27) (.k (.int .i64 0)), none, none, [], none⟩]
def ac_field_Take_12 : AC := .reg l_field_Take_12
def l_field_Take_13 : List AOp := [⟨(some 29), .mv (.t 11), none, none, [], none⟩,
  ⟨(some 4), .nilown 1, none, none, [], none⟩,
  ⟨(some 5), .mv (.k (.str [])), none, none, [], none⟩,
  ⟨(some 6), .mv (.t 29), none, none, [], none⟩]
def ac_field_Take_13 : AC := .reg l_field_Take_13
def ac_field_Take_14 : AC := .seq ac_field_Take_13 .ret
def ac_field_Take_15 : AC := .cond (.t 28) ac_field_Take_14 .skip
def ac_field_Take_16 : AC := .seq ac_field_Take_12 ac_field_Take_15
def l_field_Take_17 : List AOp := [⟨(some 30), .mv (.t 4), none, none, [], none⟩,
  ⟨(some 31), .mv (.t 10), none, none, [], none⟩,
  ⟨(some 32), .blds false [(.int .u64 0)] 1 [(0, (.t 31))], none, none, [], none⟩,
  ⟨(some 33), .app 1 8 [(.int .u64 0)] (.t 30) (.t 32), none, none, [], none⟩,
  ⟨(some 4), .mv (.t 33), none, none, [], none⟩]
def ac_field_Take_17 : AC := .reg l_field_Take_17
def l_field_Take_18 : List AOp := [⟨(some 34), .mv (.t 7), none, none, [], none⟩,
  ⟨(some 35), .mv (.t 9), none, none, [], none⟩,
  ⟨(some 36), .bin .add (.t 34) (.t 35), none, none, [], none⟩,
  ⟨(some 7), .mv (.t 36), none, none, [], none⟩]
def ac_field_Take_18 : AC := .reg l_field_Take_18
def ac_field_Take_19 : AC := .seq ac_field_Take_17 ac_field_Take_18
def ac_field_Take_20 : AC := .seq ac_field_Take_16 ac_field_Take_19
def ac_field_Take_21 : AC := .seq ac_field_Take_11 ac_field_Take_20
def ac_field_Take_22 : AC := .seq ac_field_Take_10 ac_field_Take_21
def ac_field_Take_23 : AC := .block 1 ac_field_Take_22
def l_field_Take_24 : List AOp := [⟨(some 37), .bin .add (.t 16) (.k (.int .i64 1)), none, none, [], none⟩,
  ⟨(some 16), .mv (.t 37), none, none, [], none⟩]
def ac_field_Take_24 : AC := .reg l_field_Take_24
def ac_field_Take_25 : AC := .seq ac_field_Take_23 ac_field_Take_24
def ac_field_Take_26 : AC := .seq ac_field_Take_9 ac_field_Take_25
def ac_field_Take_27 : AC := .seq ac_field_Take_8 ac_field_Take_26
def ac_field_Take_28 : AC := .loop [0, 4, 7, 14, 15, 16] 1 ac_field_Take_27
def ac_field_Take_29 : AC := .block 0 ac_field_Take_28
def ac_field_Take_30 : AC := .seq ac_field_Take_7 ac_field_Take_29
def l_field_Take_31 : List AOp := [⟨(some 38), .mv (.t 4), none, none, [], none⟩,
  ⟨(some 39), .mv (.t 0), none, none, [], none⟩,
  ⟨(some 40), .mv (.t 7), none, none, [], none⟩,
  ⟨(some 41), .sstr (.t 39) (some (.t 40)) none, none, none, [], none⟩,
  ⟨(some 4), .mv (.t 38), none, none, [], none⟩,
  ⟨(some 5), .mv (.t 41), none, none, [], none⟩,
  ⟨(some 6), .mv (.k (.int .i64 0)), none, none, [], none⟩]
def ac_field_Take_31 : AC := .dreg 0 l_field_Take_31
def ac_field_Take_32 : AC := .seq ac_field_Take_31 .ret
def ac_field_Take_33 : AC := .seq ac_field_Take_30 ac_field_Take_32
def ac_field_Take_34 : AC := .seq ac_field_Take_6 ac_field_Take_33
def ac_field_Take_35 : AC := .seq ac_field_Take_5 ac_field_Take_34
def ac_field_Take_36 : AC := .seq ac_field_Take_0 ac_field_Take_35
def ac_field_Take : AC := ac_field_Take_36
theorem comp_field_Take : compF Try.prog [4] (drawR Try.prog [4] Try.f17.ntmps) [([0, 4, 7, 14, 15, 16], 1)] 2 Try.f17 = some (ac_field_Take, [.t 4, .t 5, .t 6]) := by kernel_rfl
def U_field_Take := (And.intro (And.intro (And.intro (And.intro (And.intro (And.intro @ac_field_Take.eq_1 (@mR _ _ ac_field_Take_0.eq_1)) (And.intro (@mR _ _ ac_field_Take_1.eq_1) (@mR _ _ ac_field_Take_2.eq_1))) (And.intro (And.intro (@mU _ _ ac_field_Take_3.eq_1) (@mU _ _ ac_field_Take_4.eq_1)) (@mU _ _ ac_field_Take_5.eq_1))) (And.intro (And.intro (And.intro (@mR _ _ ac_field_Take_6.eq_1) (@mR _ _ ac_field_Take_7.eq_1)) (@mR _ _ ac_field_Take_8.eq_1)) (And.intro (And.intro (@mU _ _ ac_field_Take_9.eq_1) (@mR _ _ ac_field_Take_10.eq_1)) (@mR _ _ ac_field_Take_11.eq_1)))) (And.intro (And.intro (And.intro (And.intro (@mR _ _ ac_field_Take_12.eq_1) (@mR _ _ ac_field_Take_13.eq_1)) (And.intro (@mU _ _ ac_field_Take_14.eq_1) (@mU _ _ ac_field_Take_15.eq_1))) (And.intro (And.intro (@mU _ _ ac_field_Take_16.eq_1) (@mR _ _ ac_field_Take_17.eq_1)) (@mR _ _ ac_field_Take_18.eq_1))) (And.intro (And.intro (And.intro (@mU _ _ ac_field_Take_19.eq_1) (@mU _ _ ac_field_Take_20.eq_1)) (@mU _ _ ac_field_Take_21.eq_1)) (And.intro (And.intro (@mU _ _ ac_field_Take_22.eq_1) (@mU _ _ ac_field_Take_23.eq_1)) (@mR _ _ ac_field_Take_24.eq_1))))) (And.intro (And.intro (And.intro (And.intro (And.intro (@mU _ _ ac_field_Take_25.eq_1) (@mU _ _ ac_field_Take_26.eq_1)) (And.intro (@mU _ _ ac_field_Take_27.eq_1) (@mU _ _ ac_field_Take_28.eq_1))) (And.intro (And.intro (@mU _ _ ac_field_Take_29.eq_1) (@mU _ _ ac_field_Take_30.eq_1)) (@mD _ _ _ ac_field_Take_31.eq_1))) (And.intro (And.intro (And.intro (@mU _ _ ac_field_Take_32.eq_1) (@mU _ _ ac_field_Take_33.eq_1)) (@mU _ _ ac_field_Take_34.eq_1)) (And.intro (And.intro (@mU _ _ ac_field_Take_35.eq_1) (@mU _ _ ac_field_Take_36.eq_1)) @l_field_Take_0.eq_1))) (And.intro (And.intro (And.intro (And.intro @l_field_Take_1.eq_1 @l_field_Take_2.eq_1) (And.intro @l_field_Take_6.eq_1 @l_field_Take_7.eq_1)) (And.intro (And.intro @l_field_Take_8.eq_1 @l_field_Take_10.eq_1) @l_field_Take_11.eq_1)) (And.intro (And.intro (And.intro @l_field_Take_12.eq_1 @l_field_Take_13.eq_1) @l_field_Take_17.eq_1) (And.intro (And.intro @l_field_Take_18.eq_1 @l_field_Take_24.eq_1) @l_field_Take_31.eq_1)))))

/- scoria/scoriaref01.Take -/
def l_ref01_Take_0 : List AOp := [⟨(some 4), .mv (.k (.slc [])), none, none, [], none⟩,
  ⟨(some 5), .mv (.k (.str [])), none, none, [], none⟩,
  ⟨(some 6), .mv (.k (.int .i64 0)), none, none, [], none⟩]
def ac_ref01_Take_0 : AC := .reg l_ref01_Take_0
def l_ref01_Take_1 : List AOp := [⟨(some 7), .mv (.k (.int .i64 0)), none, none, [], none⟩]
def ac_ref01_Take_1 : AC := .reg l_ref01_Take_1
def l_ref01_Take_2 : List AOp := [⟨(some 12), .mv (.t 7), none, none, [], none⟩,
  ⟨(some 13), .mv (.t 1), none, none, [], none⟩,
  ⟨(some 14), .len (.t 13), none, none, [], none⟩,
  ⟨(some 15), .bin .lss (.t 12) (.t 14), none, none, [], none⟩]
def ac_ref01_Take_2 : AC := .reg l_ref01_Take_2
def ac_ref01_Take_3 : AC := .cond (.t 15) .skip (.exit 0)
def ac_ref01_Take_4 : AC := .seq ac_ref01_Take_2 ac_ref01_Take_3
def l_ref01_Take_5 : List AOp := [⟨(some 18), .mv (.t 1), none, none, [], none⟩,
  ⟨(some 19), .mv (.t 7), none, none, [], none⟩,
  ⟨(some 20), .isl 1 (.t 18) (.t 19), none, none, [], none⟩,
  ⟨(some 21), .load none (.t 20), none, none, [], none⟩,
  ⟨(some 22), .bin .lss (.t 21) (.k (.int .i64 1)), none, none, [], none⟩,
  ⟨(some 23), .mv (.t 22), none, none, [], none⟩,
  ⟨(some 24), .mv (.t 1), (some (23, false)), none, [], none⟩,
  ⟨(some 25), .mv (.t 7), (some (23, false)), none, [], none⟩,
  ⟨(some 26), .isl 1 (.t 24) (.t 25), (some (23, false)), none, [], none⟩,
  ⟨(some 27), .load none (.t 26), (some (23, false)), none, [], none⟩,
  ⟨(some 28), .bin .gtr (.t 27) (.k (.int .i64 8)), (some (23, false)), none, [], none⟩,
  ⟨(some 29), .pick (.t 23) (.k (.bool true)) (.t 28), none, none, [], none⟩]
def ac_ref01_Take_5 : AC := .reg l_ref01_Take_5
def l_ref01_Take_6 : List AOp := [⟨(some 4), .mv (.k (.slc [])), none, none, [], none⟩,
  ⟨(some 5), .mv (.k (.str [])), none, none, [], none⟩,
  ⟨(some 6), .mv (.k (.int .i64 1)), none, none, [], none⟩]
def ac_ref01_Take_6 : AC := .reg l_ref01_Take_6
def ac_ref01_Take_7 : AC := .seq ac_ref01_Take_6 .ret
def ac_ref01_Take_8 : AC := .cond (.t 29) ac_ref01_Take_7 .skip
def ac_ref01_Take_9 : AC := .seq ac_ref01_Take_5 ac_ref01_Take_8
def ac_ref01_Take_10 : AC := .block 1 ac_ref01_Take_9
def l_ref01_Take_11 : List AOp := [⟨(some 16), .mv (.t 7), none, none, [], none⟩,
  ⟨(some 17), .bin .add (.t 16) (.k (.int .i64 1)), none, none, [], none⟩,
  ⟨(some 7), .mv (.t 17), none, none, [], none⟩]
def ac_ref01_Take_11 : AC := .reg l_ref01_Take_11
def ac_ref01_Take_12 : AC := .seq ac_ref01_Take_10 ac_ref01_Take_11
def ac_ref01_Take_13 : AC := .seq ac_ref01_Take_4 ac_ref01_Take_12
def ac_ref01_Take_14 : AC := .loop [0, 1, 7] 0 ac_ref01_Take_13
def ac_ref01_Take_15 : AC := .block 0 ac_ref01_Take_14
def ac_ref01_Take_16 : AC := .seq ac_ref01_Take_1 ac_ref01_Take_15
def l_ref01_Take_17 : List AOp := [⟨(some 8), .nilown 1, none, none, [], none⟩]
def ac_ref01_Take_17 : AC := .reg l_ref01_Take_17
def l_ref01_Take_18 : List AOp := [⟨(some 9), .mv (.k (.int .i64 0)), none, none, [], none⟩]
def ac_ref01_Take_18 : AC := .reg l_ref01_Take_18
def l_ref01_Take_19 : List AOp := [⟨(some 30), .mv (.t 9), none, none, [], none⟩,
  ⟨(some 31), .mv (.t 1), none, none, [], none⟩,
  ⟨(some 32), .len (.t 31), none, none, [], none⟩,
  ⟨(some 33), .bin .lss (.t 30) (.t 32), none, none, [], none⟩]
def ac_ref01_Take_19 : AC := .reg l_ref01_Take_19
def ac_ref01_Take_20 : AC := .cond (.t 33) .skip (.exit 2)
def ac_ref01_Take_21 : AC := .seq ac_ref01_Take_19 ac_ref01_Take_20
def l_ref01_Take_22 : List AOp := [⟨(some 37), .mv (.t 0), none, none, [], none⟩,
  ⟨(some 38), .mv (.t 1), none, none, [], none⟩,
  ⟨(some 39), .mv (.t 9), none, none, [], none⟩,
  ⟨(some 40), .isl 1 (.t 38) (.t 39), none, none, [], none⟩,
  ⟨(some 41), .load none (.t 40), none, none, [], none⟩,
  ⟨(some 42), .call false 16 [(.t 37), (.k (.int .i64 0)), (.t 41)], none, none, [], none⟩,
  ⟨(some 36), .mv (.t 42), none, none, [], none⟩,
  ⟨(some 43), .ext 0 (.t 36), none, none, [], none⟩,
  ⟨(some 44), .ext 1 (.t 36), none, none, [], none⟩,
  ⟨(some 10), .mv (.t 43), none, none, [], none⟩,
  ⟨(some 11), .mv (.t 44), none, none, [], none⟩]
def ac_ref01_Take_22 : AC := .reg l_ref01_Take_22
def l_ref01_Take_23 : List AOp := [⟨(some 45), .mv (.t 11), none, none, [], none⟩,
  ⟨(some 46), .bin .neq (.t 45) (.k (.int .i64 0)), none, none, [], none⟩]
def ac_ref01_Take_23 : AC := .reg l_ref01_Take_23
def l_ref01_Take_24 : List AOp := [⟨(some 47), .mv (.t 11), none, none, [], none⟩,
  ⟨(some 4), .mv (.k (.slc [])), none, none, [], none⟩,
  ⟨(some 5), .mv (.k (.str [])), none, none, [], none⟩,
  ⟨(some 6), .mv (.t 47), none, none, [], none⟩]
def ac_ref01_Take_24 : AC := .reg l_ref01_Take_24
def ac_ref01_Take_25 : AC := .seq ac_ref01_Take_24 .ret
def ac_ref01_Take_26 : AC := .cond (.t 46) ac_ref01_Take_25 .skip
def ac_ref01_Take_27 : AC := .seq ac_ref01_Take_23 ac_ref01_Take_26
def l_ref01_Take_28 : List AOp := [⟨(some 48), .mv (.t 8), none, none, [], none⟩,
  ⟨(some 49), .mv (.t 10), none, none, [], none⟩,
  ⟨(some 50), .blds false [(.int .u64 0)] 1 [(0, (.t 49))], none, none, [], none⟩,
  ⟨(some 51), .app 1 8 [(.int .u64 0)] (.t 48) (.t 50), none, none, [], none⟩,
  ⟨(some 8), .mv (.t 51), none, none, [], none⟩]
def ac_ref01_Take_28 : AC := .reg l_ref01_Take_28
def l_ref01_Take_29 : List AOp := [⟨(some 52), .mv (.t 0), none, none, [], none⟩,
  ⟨(some 53), .mv (.t 1), none, none, [], none⟩,
  ⟨(some 54), .mv (.t 9), none, none, [], none⟩,
  ⟨(some 55), .isl 1 (.t 53) (.t 54), none, none, [], none⟩,
  ⟨(some 56), .load none (.t 55), none, none, [], none⟩,
  ⟨(some 57), .sstr (.t 52) (some (.t 56)) none, none, none, [], none⟩,
  ⟨(some 0), .mv (.t 57), none, none, [], none⟩]
def ac_ref01_Take_29 : AC := .reg l_ref01_Take_29
def ac_ref01_Take_30 : AC := .seq ac_ref01_Take_28 ac_ref01_Take_29
def ac_ref01_Take_31 : AC := .seq ac_ref01_Take_27 ac_ref01_Take_30
def ac_ref01_Take_32 : AC := .seq ac_ref01_Take_22 ac_ref01_Take_31
def ac_ref01_Take_33 : AC := .block 3 ac_ref01_Take_32
def l_ref01_Take_34 : List AOp := [⟨(some 34), .mv (.t 9), none, none, [], none⟩,
  ⟨(some 35), .bin .add (.t 34) (.k (.int .i64 1)), none, none, [], none⟩,
  ⟨(some 9), .mv (.t 35), none, none, [], none⟩]
def ac_ref01_Take_34 : AC := .reg l_ref01_Take_34
def ac_ref01_Take_35 : AC := .seq ac_ref01_Take_33 ac_ref01_Take_34
def ac_ref01_Take_36 : AC := .seq ac_ref01_Take_21 ac_ref01_Take_35
def ac_ref01_Take_37 : AC := .loop [0, 1, 8, 9] 1 ac_ref01_Take_36
def ac_ref01_Take_38 : AC := .block 2 ac_ref01_Take_37
def ac_ref01_Take_39 : AC := .seq ac_ref01_Take_18 ac_ref01_Take_38
def l_ref01_Take_40 : List AOp := [⟨(some 58), .mv (.t 8), none, none, [], none⟩,
  ⟨(some 59), .mv (.t 0), none, none, [], none⟩,
  ⟨(some 4), .mv (.t 58), none, none, [], none⟩,
  ⟨(some 5), .mv (.t 59), none, none, [], none⟩,
  ⟨(some 6), .mv (.k (.int .i64 0)), none, none, [], none⟩]
def ac_ref01_Take_40 : AC := .reg l_ref01_Take_40
def ac_ref01_Take_41 : AC := .seq ac_ref01_Take_40 .ret
def ac_ref01_Take_42 : AC := .seq ac_ref01_Take_39 ac_ref01_Take_41
def ac_ref01_Take_43 : AC := .seq ac_ref01_Take_17 ac_ref01_Take_42
def ac_ref01_Take_44 : AC := .seq ac_ref01_Take_16 ac_ref01_Take_43
def ac_ref01_Take_45 : AC := .seq ac_ref01_Take_0 ac_ref01_Take_44
def ac_ref01_Take : AC := ac_ref01_Take_45
theorem comp_ref01_Take : compF Try.prog [8] (drawR Try.prog [8] Try.f18.ntmps) [([0, 1, 7], 0), ([0, 1, 8, 9], 1)] 2 Try.f18 = some (ac_ref01_Take, [.t 4, .t 5, .t 6]) := by kernel_rfl
def U_ref01_Take := (And.intro (And.intro (And.intro (And.intro (And.intro (And.intro @ac_ref01_Take.eq_1 (@mR _ _ ac_ref01_Take_0.eq_1)) (And.intro (@mR _ _ ac_ref01_Take_1.eq_1) (@mR _ _ ac_ref01_Take_2.eq_1))) (And.intro (And.intro (@mU _ _ ac_ref01_Take_3.eq_1) (@mU _ _ ac_ref01_Take_4.eq_1)) (And.intro (@mR _ _ ac_ref01_Take_5.eq_1) (@mR _ _ ac_ref01_Take_6.eq_1)))) (And.intro (And.intro (And.intro (@mU _ _ ac_ref01_Take_7.eq_1) (@mU _ _ ac_ref01_Take_8.eq_1)) (And.intro (@mU _ _ ac_ref01_Take_9.eq_1) (@mU _ _ ac_ref01_Take_10.eq_1))) (And.intro (And.intro (@mR _ _ ac_ref01_Take_11.eq_1) (@mU _ _ ac_ref01_Take_12.eq_1)) (And.intro (@mU _ _ ac_ref01_Take_13.eq_1) (@mU _ _ ac_ref01_Take_14.eq_1))))) (And.intro (And.intro (And.intro (And.intro (@mU _ _ ac_ref01_Take_15.eq_1) (@mU _ _ ac_ref01_Take_16.eq_1)) (And.intro (@mR _ _ ac_ref01_Take_17.eq_1) (@mR _ _ ac_ref01_Take_18.eq_1))) (And.intro (And.intro (@mR _ _ ac_ref01_Take_19.eq_1) (@mU _ _ ac_ref01_Take_20.eq_1)) (And.intro (@mU _ _ ac_ref01_Take_21.eq_1) (@mR _ _ ac_ref01_Take_22.eq_1)))) (And.intro (And.intro (And.intro (@mR _ _ ac_ref01_Take_23.eq_1) (@mR _ _ ac_ref01_Take_24.eq_1)) (And.intro (@mU _ _ ac_ref01_Take_25.eq_1) (@mU _ _ ac_ref01_Take_26.eq_1))) (And.intro (And.intro (@mU _ _ ac_ref01_Take_27.eq_1) (@mR _ _ ac_ref01_Take_28.eq_1)) (And.intro (@mR _ _ ac_ref01_Take_29.eq_1) (@mU _ _ ac_ref01_Take_30.eq_1)))))) (And.intro (And.intro (And.intro (And.intro (And.intro (@mU _ _ ac_ref01_Take_31.eq_1) (@mU _ _ ac_ref01_Take_32.eq_1)) (And.intro (@mU _ _ ac_ref01_Take_33.eq_1) (@mR _ _ ac_ref01_Take_34.eq_1))) (And.intro (And.intro (@mU _ _ ac_ref01_Take_35.eq_1) (@mU _ _ ac_ref01_Take_36.eq_1)) (And.intro (@mU _ _ ac_ref01_Take_37.eq_1) (@mU _ _ ac_ref01_Take_38.eq_1)))) (And.intro (And.intro (And.intro (@mU _ _ ac_ref01_Take_39.eq_1) (@mR _ _ ac_ref01_Take_40.eq_1)) (And.intro (@mU _ _ ac_ref01_Take_41.eq_1) (@mU _ _ ac_ref01_Take_42.eq_1))) (And.intro (And.intro (@mU _ _ ac_ref01_Take_43.eq_1) (@mU _ _ ac_ref01_Take_44.eq_1)) (And.intro (@mU _ _ ac_ref01_Take_45.eq_1) @l_ref01_Take_0.eq_1)))) (And.intro (And.intro (And.intro (And.intro @l_ref01_Take_1.eq_1 @l_ref01_Take_2.eq_1) (And.intro @l_ref01_Take_5.eq_1 @l_ref01_Take_6.eq_1)) (And.intro (And.intro @l_ref01_Take_11.eq_1 @l_ref01_Take_17.eq_1) (And.intro @l_ref01_Take_18.eq_1 @l_ref01_Take_19.eq_1))) (And.intro (And.intro (And.intro @l_ref01_Take_22.eq_1 @l_ref01_Take_23.eq_1) (And.intro @l_ref01_Take_24.eq_1 @l_ref01_Take_28.eq_1)) (And.intro (And.intro @l_ref01_Take_29.eq_1 @l_ref01_Take_34.eq_1) @l_ref01_Take_40.eq_1)))))

/- scoria/scoriaref01.Same -/
def l_ref01_Same_0 : List AOp := [⟨(some 4), .mv (.k (.bool false)), none, none, [], none⟩]
def ac_ref01_Same_0 : AC := .reg l_ref01_Same_0
def l_ref01_Same_1 : List AOp := [⟨(some 6), .mv (.t 0), none, none, [], none⟩,
  ⟨(some 7), .len (.t 6), none, none, [], none⟩,
  ⟨(some 8), .mv (.t 1), none, none, [], none⟩,
  ⟨(some 9), .len (.t 8), none, none, [], none⟩,
  ⟨(some 10), .bin .neq (.t 7) (.t 9), none, none, [], none⟩]
def ac_ref01_Same_1 : AC := .reg l_ref01_Same_1
def l_ref01_Same_2 : List AOp := [⟨(some 4), .mv (.k (.bool false)), none, none, [], none⟩]
def ac_ref01_Same_2 : AC := .reg l_ref01_Same_2
def ac_ref01_Same_3 : AC := .seq ac_ref01_Same_2 .ret
def ac_ref01_Same_4 : AC := .cond (.t 10) ac_ref01_Same_3 .skip
def ac_ref01_Same_5 : AC := .seq ac_ref01_Same_1 ac_ref01_Same_4
def l_ref01_Same_6 : List AOp := [⟨(some 5), .mv (.k (.int .i64 0)), none, none, [], none⟩]
def ac_ref01_Same_6 : AC := .reg l_ref01_Same_6
def l_ref01_Same_7 : List AOp := [⟨(some 11), .mv (.t 5), none, none, [], none⟩,
  ⟨(some 12), .mv (.t 0), none, none, [], none⟩,
  ⟨(some 13), .len (.t 12), none, none, [], none⟩,
  ⟨(some 14), .bin .lss (.t 11) (.t 13), none, none, [], none⟩]
def ac_ref01_Same_7 : AC := .reg l_ref01_Same_7
def ac_ref01_Same_8 : AC := .cond (.t 14) .skip (.exit 0)
def ac_ref01_Same_9 : AC := .seq ac_ref01_Same_7 ac_ref01_Same_8
def l_ref01_Same_10 : List AOp := [⟨(some 17), .mv (.t 0), none, none, [], none⟩,
  ⟨(some 18), .mv (.t 5), none, none, [], none⟩,
  ⟨(some 19), .isl 1 (.t 17) (.t 18), none, none, [], none⟩,
  ⟨(some 20), .load none (.t 19), none, none, [], none⟩,
  ⟨(some 21), .mv (.t 1), none, none, [], none⟩,
  ⟨(some 22), .mv (.t 5), none, none, [], none⟩,
  ⟨(some 23), .isl 1 (.t 21) (.t 22), none, none, [], none⟩,
  ⟨(some 24), .load none (.t 23), none, none, [], none⟩,
  ⟨(some 25), .bin .neq (.t 20) (.t 24), none, none, [], none⟩]
def ac_ref01_Same_10 : AC := .dreg 0 l_ref01_Same_10
def l_ref01_Same_11 : List AOp := [⟨(some 4), .mv (.k (.bool false)), none, none, [], none⟩]
def ac_ref01_Same_11 : AC := .reg l_ref01_Same_11
def ac_ref01_Same_12 : AC := .seq ac_ref01_Same_11 .ret
def ac_ref01_Same_13 : AC := .cond (.t 25) ac_ref01_Same_12 .skip
def ac_ref01_Same_14 : AC := .seq ac_ref01_Same_10 ac_ref01_Same_13
def ac_ref01_Same_15 : AC := .block 1 ac_ref01_Same_14
def l_ref01_Same_16 : List AOp := [⟨(some 15), .mv (.t 5), none, none, [], none⟩,
  ⟨(some 16), .bin .add (.t 15) (.k (.int .i64 1)), none, none, [], none⟩,
  ⟨(some 5), .mv (.t 16), none, none, [], none⟩]
def ac_ref01_Same_16 : AC := .reg l_ref01_Same_16
def ac_ref01_Same_17 : AC := .seq ac_ref01_Same_15 ac_ref01_Same_16
def ac_ref01_Same_18 : AC := .seq ac_ref01_Same_9 ac_ref01_Same_17
def ac_ref01_Same_19 : AC := .loop [0, 1, 5] 0 ac_ref01_Same_18
def ac_ref01_Same_20 : AC := .block 0 ac_ref01_Same_19
def ac_ref01_Same_21 : AC := .seq ac_ref01_Same_6 ac_ref01_Same_20
def l_ref01_Same_22 : List AOp := [⟨(some 4), .mv (.k (.bool true)), none, none, [], none⟩]
def ac_ref01_Same_22 : AC := .reg l_ref01_Same_22
def ac_ref01_Same_23 : AC := .seq ac_ref01_Same_22 .ret
def ac_ref01_Same_24 : AC := .seq ac_ref01_Same_21 ac_ref01_Same_23
def ac_ref01_Same_25 : AC := .seq ac_ref01_Same_5 ac_ref01_Same_24
def ac_ref01_Same_26 : AC := .seq ac_ref01_Same_0 ac_ref01_Same_25
def ac_ref01_Same : AC := ac_ref01_Same_26
theorem comp_ref01_Same : compF Try.prog [] (drawR Try.prog [] Try.f19.ntmps) [([0, 1, 5], 0)] 2 Try.f19 = some (ac_ref01_Same, [.t 4]) := by kernel_rfl
def U_ref01_Same := (And.intro (And.intro (And.intro (And.intro (And.intro (And.intro @ac_ref01_Same.eq_1 (@mR _ _ ac_ref01_Same_0.eq_1)) (@mR _ _ ac_ref01_Same_1.eq_1)) (And.intro (@mR _ _ ac_ref01_Same_2.eq_1) (@mU _ _ ac_ref01_Same_3.eq_1))) (And.intro (And.intro (And.intro (@mU _ _ ac_ref01_Same_4.eq_1) (@mU _ _ ac_ref01_Same_5.eq_1)) (@mR _ _ ac_ref01_Same_6.eq_1)) (And.intro (@mR _ _ ac_ref01_Same_7.eq_1) (@mU _ _ ac_ref01_Same_8.eq_1)))) (And.intro (And.intro (And.intro (And.intro (@mU _ _ ac_ref01_Same_9.eq_1) (@mD _ _ _ ac_ref01_Same_10.eq_1)) (@mR _ _ ac_ref01_Same_11.eq_1)) (And.intro (@mU _ _ ac_ref01_Same_12.eq_1) (@mU _ _ ac_ref01_Same_13.eq_1))) (And.intro (And.intro (@mU _ _ ac_ref01_Same_14.eq_1) (@mU _ _ ac_ref01_Same_15.eq_1)) (And.intro (@mR _ _ ac_ref01_Same_16.eq_1) (@mU _ _ ac_ref01_Same_17.eq_1))))) (And.intro (And.intro (And.intro (And.intro (And.intro (@mU _ _ ac_ref01_Same_18.eq_1) (@mU _ _ ac_ref01_Same_19.eq_1)) (@mU _ _ ac_ref01_Same_20.eq_1)) (And.intro (@mU _ _ ac_ref01_Same_21.eq_1) (@mR _ _ ac_ref01_Same_22.eq_1))) (And.intro (And.intro (@mU _ _ ac_ref01_Same_23.eq_1) (@mU _ _ ac_ref01_Same_24.eq_1)) (And.intro (@mU _ _ ac_ref01_Same_25.eq_1) (@mU _ _ ac_ref01_Same_26.eq_1)))) (And.intro (And.intro (And.intro (And.intro @l_ref01_Same_0.eq_1 @l_ref01_Same_1.eq_1) @l_ref01_Same_2.eq_1) (And.intro @l_ref01_Same_6.eq_1 @l_ref01_Same_7.eq_1)) (And.intro (And.intro @l_ref01_Same_10.eq_1 @l_ref01_Same_11.eq_1) (And.intro @l_ref01_Same_16.eq_1 @l_ref01_Same_22.eq_1)))))

/- scoria/field.Row -/
def l_field_Row_0 : List AOp := [⟨(some 4), .mv (.k (.str [])), none, none, [], none⟩,
  ⟨(some 5), .mv (.k (.int .i64 0)), none, none, [], none⟩]
def ac_field_Row_0 : AC := .reg l_field_Row_0
def l_field_Row_1 : List AOp := [⟨(some 9), .mv (.t 0), none, none, [], none⟩,
  ⟨(some 10), .len (.t 9), none, none, [], none⟩,
  ⟨(some 11), .mv (.t 1), none, none, [], none⟩,
  ⟨(some 12), .len (.t 11), none, none, [], none⟩,
  ⟨(some 13), .bin .neq (.t 10) (.t 12), none, none, [], none⟩,
  ⟨(some 14), .mv (.t 13), none, none, [], none⟩,
  ⟨(some 15), .mv (.t 1), (some (14, false)), none, [], none⟩,
  ⟨(some 16), .call false 28 [(.t 15), (.k (.fn (.func 29) [] []))], (some (14, false)), none, [], none⟩,
  ⟨(some 17), .pick (.t 14) (.k (.bool true)) (.t 16), none, none, [], none⟩]
def ac_field_Row_1 : AC := .reg l_field_Row_1
def l_field_Row_2 : List AOp := [⟨(some 4), .mv (.k (.str [])), none, none, [], none⟩,
  ⟨(some 5), .mv (.k (.int .i64 1)), none, none, [], none⟩]
def ac_field_Row_2 : AC := .reg l_field_Row_2
def ac_field_Row_3 : AC := .seq ac_field_Row_2 .ret
def ac_field_Row_4 : AC := .cond (.t 17) ac_field_Row_3 .skip
def ac_field_Row_5 : AC := .seq ac_field_Row_1 ac_field_Row_4
def l_field_Row_6 : List AOp := [⟨(some 6), .balloc 62 5, none, none, [], none⟩]
def ac_field_Row_6 : AC := .reg l_field_Row_6
def l_field_Row_7 : List AOp := [⟨(some 18), .mv (.t 0), none, none, [], none⟩,
  ⟨(some 19), .len (.t 18), none, none, [], none⟩,
  ⟨(some 20), .mv (.k (.int .i64 0)), none, none, [], none⟩]
def ac_field_Row_7 : AC := .reg l_field_Row_7
def l_field_Row_8 : List AOp := [⟨(some 21), .bin .lss (.t 20) (.t 19), none, none, [], none⟩]
def ac_field_Row_8 : AC := .reg l_field_Row_8
def ac_field_Row_9 : AC := .cond (.t 21) .skip (.exit 0)
def l_field_Row_10 : List AOp := [⟨(some 22), .mv (.t 20), none, none, [], none⟩,
  ⟨(some 23), .isl 1 (.t 18) (.t 20), none, none, [], none⟩,
  ⟨(some 24), .load none (.t 23), none, none, [], none⟩,
  ⟨(some 7), .mv (.t 22), none, none, [], none⟩,
  ⟨(some 8), .mv (.t 24), none, none, [], none⟩]
def ac_field_Row_10 : AC := .reg l_field_Row_10
def l_field_Row_11 : List AOp := [⟨(some 25), .mv (.t 8), none, none, [], none⟩,
  ⟨(some 26), .mv (.t 1), none, none, [], none⟩,
  ⟨(some 27), .mv (.t 7), none, none, [], none⟩,
  ⟨(some 28), .isl 1 (.t 26) (.t 27), none, none, [], none⟩,
  ⟨(some 29), .load none (.t 28), none, none, [], none⟩,
  ⟨(some 30), .call false 25 [(.t 25), (.t 29)], none, none, [], none⟩,
  ⟨(some 31), .un .not (.t 30), none, none, [], none⟩]
def ac_field_Row_11 : AC := .reg l_field_Row_11
def l_field_Row_12 : List AOp := [⟨(some 4), .mv (.k (.str [])), none, none, [], none⟩,
  ⟨(some 5), .mv (.k (.int .i64 2)), none, none, [], none⟩]
def ac_field_Row_12 : AC := .reg l_field_Row_12
def ac_field_Row_13 : AC := .seq ac_field_Row_12 .ret
def ac_field_Row_14 : AC := .cond (.t 31) ac_field_Row_13 .skip
def ac_field_Row_15 : AC := .seq ac_field_Row_11 ac_field_Row_14
def l_field_Row_16 : List AOp := [⟨(some 32), .mv (.t 8), none, none, [], none⟩,
  ⟨(some 33), .mv (.t 1), none, none, [], none⟩,
  ⟨(some 34), .mv (.t 7), none, none, [], none⟩,
  ⟨(some 35), .isl 1 (.t 33) (.t 34), none, none, [], none⟩,
  ⟨(some 36), .load none (.t 35), none, none, [], none⟩,
  ⟨(some 37), .call false 26 [(.t 32), (.t 36)], none, none, [], none⟩,
  ⟨(some 38), .icall 30 [(.t 6), (.t 37)], none, none, [], none⟩]
def ac_field_Row_16 : AC := .reg l_field_Row_16
def ac_field_Row_17 : AC := .seq ac_field_Row_15 ac_field_Row_16
def ac_field_Row_18 : AC := .seq ac_field_Row_10 ac_field_Row_17
def ac_field_Row_19 : AC := .block 1 ac_field_Row_18
def l_field_Row_20 : List AOp := [⟨(some 39), .bin .add (.t 20) (.k (.int .i64 1)), none, none, [], none⟩,
  ⟨(some 20), .mv (.t 39), none, none, [], none⟩]
def ac_field_Row_20 : AC := .reg l_field_Row_20
def ac_field_Row_21 : AC := .seq ac_field_Row_19 ac_field_Row_20
def ac_field_Row_22 : AC := .seq ac_field_Row_9 ac_field_Row_21
def ac_field_Row_23 : AC := .seq ac_field_Row_8 ac_field_Row_22
def ac_field_Row_24 : AC := .loop [1, 6, 18, 19, 20] 2 ac_field_Row_23
def ac_field_Row_25 : AC := .block 0 ac_field_Row_24
def ac_field_Row_26 : AC := .seq ac_field_Row_7 ac_field_Row_25
def l_field_Row_27 : List AOp := [⟨(some 40), .icall 31 [(.t 6)], none, none, [], none⟩,
  ⟨(some 4), .mv (.t 40), none, none, [], none⟩,
  ⟨(some 5), .mv (.k (.int .i64 0)), none, none, [], none⟩]
def ac_field_Row_27 : AC := .reg l_field_Row_27
def ac_field_Row_28 : AC := .seq ac_field_Row_27 .ret
def ac_field_Row_29 : AC := .seq ac_field_Row_26 ac_field_Row_28
def ac_field_Row_30 : AC := .seq ac_field_Row_6 ac_field_Row_29
def ac_field_Row_31 : AC := .seq ac_field_Row_5 ac_field_Row_30
def ac_field_Row_32 : AC := .seq ac_field_Row_0 ac_field_Row_31
def ac_field_Row : AC := ac_field_Row_32
theorem comp_field_Row : compF Try.prog [6, 1000030, 1000031] (drawR Try.prog [6, 1000030, 1000031] Try.f20.ntmps) [([1, 6, 18, 19, 20], 2)] 2 Try.f20 = some (ac_field_Row, [.t 4, .t 5]) := by kernel_rfl
def U_field_Row := (And.intro (And.intro (And.intro (And.intro (And.intro (And.intro @ac_field_Row.eq_1 (@mR _ _ ac_field_Row_0.eq_1)) (@mR _ _ ac_field_Row_1.eq_1)) (And.intro (And.intro (@mR _ _ ac_field_Row_2.eq_1) (@mU _ _ ac_field_Row_3.eq_1)) (@mU _ _ ac_field_Row_4.eq_1))) (And.intro (And.intro (And.intro (@mU _ _ ac_field_Row_5.eq_1) (@mR _ _ ac_field_Row_6.eq_1)) (@mR _ _ ac_field_Row_7.eq_1)) (And.intro (And.intro (@mR _ _ ac_field_Row_8.eq_1) (@mU _ _ ac_field_Row_9.eq_1)) (@mR _ _ ac_field_Row_10.eq_1)))) (And.intro (And.intro (And.intro (And.intro (@mR _ _ ac_field_Row_11.eq_1) (@mR _ _ ac_field_Row_12.eq_1)) (@mU _ _ ac_field_Row_13.eq_1)) (And.intro (And.intro (@mU _ _ ac_field_Row_14.eq_1) (@mU _ _ ac_field_Row_15.eq_1)) (@mR _ _ ac_field_Row_16.eq_1))) (And.intro (And.intro (And.intro (@mU _ _ ac_field_Row_17.eq_1) (@mU _ _ ac_field_Row_18.eq_1)) (@mU _ _ ac_field_Row_19.eq_1)) (And.intro (@mR _ _ ac_field_Row_20.eq_1) (@mU _ _ ac_field_Row_21.eq_1))))) (And.intro (And.intro (And.intro (And.intro (And.intro (@mU _ _ ac_field_Row_22.eq_1) (@mU _ _ ac_field_Row_23.eq_1)) (@mU _ _ ac_field_Row_24.eq_1)) (And.intro (And.intro (@mU _ _ ac_field_Row_25.eq_1) (@mU _ _ ac_field_Row_26.eq_1)) (@mR _ _ ac_field_Row_27.eq_1))) (And.intro (And.intro (And.intro (@mU _ _ ac_field_Row_28.eq_1) (@mU _ _ ac_field_Row_29.eq_1)) (@mU _ _ ac_field_Row_30.eq_1)) (And.intro (And.intro (@mU _ _ ac_field_Row_31.eq_1) (@mU _ _ ac_field_Row_32.eq_1)) @l_field_Row_0.eq_1))) (And.intro (And.intro (And.intro (And.intro @l_field_Row_1.eq_1 @l_field_Row_2.eq_1) @l_field_Row_6.eq_1) (And.intro (And.intro @l_field_Row_7.eq_1 @l_field_Row_8.eq_1) @l_field_Row_10.eq_1)) (And.intro (And.intro (And.intro @l_field_Row_11.eq_1 @l_field_Row_12.eq_1) @l_field_Row_16.eq_1) (And.intro @l_field_Row_20.eq_1 @l_field_Row_27.eq_1)))))

/- scoria/scoriaref01.Row -/
def l_ref01_Row_0 : List AOp := [⟨(some 4), .mv (.k (.str [])), none, none, [], none⟩,
  ⟨(some 5), .mv (.k (.int .i64 0)), none, none, [], none⟩]
def ac_ref01_Row_0 : AC := .reg l_ref01_Row_0
def l_ref01_Row_1 : List AOp := [⟨(some 11), .mv (.t 0), none, none, [], none⟩,
  ⟨(some 12), .len (.t 11), none, none, [], none⟩,
  ⟨(some 13), .mv (.t 1), none, none, [], none⟩,
  ⟨(some 14), .len (.t 13), none, none, [], none⟩,
  ⟨(some 15), .bin .neq (.t 12) (.t 14), none, none, [], none⟩]
def ac_ref01_Row_1 : AC := .reg l_ref01_Row_1
def l_ref01_Row_2 : List AOp := [⟨(some 4), .mv (.k (.str [])), none, none, [], none⟩,
  ⟨(some 5), .mv (.k (.int .i64 1)), none, none, [], none⟩]
def ac_ref01_Row_2 : AC := .reg l_ref01_Row_2
def ac_ref01_Row_3 : AC := .seq ac_ref01_Row_2 .ret
def ac_ref01_Row_4 : AC := .cond (.t 15) ac_ref01_Row_3 .skip
def ac_ref01_Row_5 : AC := .seq ac_ref01_Row_1 ac_ref01_Row_4
def l_ref01_Row_6 : List AOp := [⟨(some 6), .mv (.k (.int .i64 0)), none, none, [], none⟩]
def ac_ref01_Row_6 : AC := .reg l_ref01_Row_6
def l_ref01_Row_7 : List AOp := [⟨(some 16), .mv (.t 6), none, none, [], none⟩,
  ⟨(some 17), .mv (.t 1), none, none, [], none⟩,
  ⟨(some 18), .len (.t 17), none, none, [], none⟩,
  ⟨(some 19), .bin .lss (.t 16) (.t 18), none, none, [], none⟩]
def ac_ref01_Row_7 : AC := .reg l_ref01_Row_7
def ac_ref01_Row_8 : AC := .cond (.t 19) .skip (.exit 0)
def ac_ref01_Row_9 : AC := .seq ac_ref01_Row_7 ac_ref01_Row_8
def l_ref01_Row_10 : List AOp := [⟨(some 22), .mv (.t 1), none, none, [], none⟩,
  ⟨(some 23), .mv (.t 6), none, none, [], none⟩,
  ⟨(some 24), .isl 1 (.t 22) (.t 23), none, none, [], none⟩,
  ⟨(some 25), .load none (.t 24), none, none, [], none⟩,
  ⟨(some 26), .bin .lss (.t 25) (.k (.int .i64 1)), none, none, [], none⟩,
  ⟨(some 27), .mv (.t 26), none, none, [], none⟩,
  ⟨(some 28), .mv (.t 1), (some (27, false)), none, [], none⟩,
  ⟨(some 29), .mv (.t 6), (some (27, false)), none, [], none⟩,
  ⟨(some 30), .isl 1 (.t 28) (.t 29), (some (27, false)), none, [], none⟩,
  ⟨(some 31), .load none (.t 30), (some (27, false)), none, [], none⟩,
  ⟨(some 32), .bin .gtr (.t 31) (.k (.int .i64 8)), (some (27, false)), none, [], none⟩,
  ⟨(some 33), .pick (.t 27) (.k (.bool true)) (.t 32), none, none, [], none⟩]
def ac_ref01_Row_10 : AC := .reg l_ref01_Row_10
def l_ref01_Row_11 : List AOp := [⟨(some 4), .mv (.k (.str [])), none, none, [], none⟩,
  ⟨(some 5), .mv (.k (.int .i64 1)), none, none, [], none⟩]
def ac_ref01_Row_11 : AC := .reg l_ref01_Row_11
def ac_ref01_Row_12 : AC := .seq ac_ref01_Row_11 .ret
def ac_ref01_Row_13 : AC := .cond (.t 33) ac_ref01_Row_12 .skip
def ac_ref01_Row_14 : AC := .seq ac_ref01_Row_10 ac_ref01_Row_13
def ac_ref01_Row_15 : AC := .block 1 ac_ref01_Row_14
def l_ref01_Row_16 : List AOp := [⟨(some 20), .mv (.t 6), none, none, [], none⟩,
  ⟨(some 21), .bin .add (.t 20) (.k (.int .i64 1)), none, none, [], none⟩,
  ⟨(some 6), .mv (.t 21), none, none, [], none⟩]
def ac_ref01_Row_16 : AC := .reg l_ref01_Row_16
def ac_ref01_Row_17 : AC := .seq ac_ref01_Row_15 ac_ref01_Row_16
def ac_ref01_Row_18 : AC := .seq ac_ref01_Row_9 ac_ref01_Row_17
def ac_ref01_Row_19 : AC := .loop [0, 1, 6] 0 ac_ref01_Row_18
def ac_ref01_Row_20 : AC := .block 0 ac_ref01_Row_19
def ac_ref01_Row_21 : AC := .seq ac_ref01_Row_6 ac_ref01_Row_20
def l_ref01_Row_22 : List AOp := [⟨(some 7), .mv (.k (.str [])), none, none, [], none⟩]
def ac_ref01_Row_22 : AC := .reg l_ref01_Row_22
def l_ref01_Row_23 : List AOp := [⟨(some 8), .mv (.k (.int .i64 0)), none, none, [], none⟩]
def ac_ref01_Row_23 : AC := .reg l_ref01_Row_23
def l_ref01_Row_24 : List AOp := [⟨(some 34), .mv (.t 8), none, none, [], none⟩,
  ⟨(some 35), .mv (.t 0), none, none, [], none⟩,
  ⟨(some 36), .len (.t 35), none, none, [], none⟩,
  ⟨(some 37), .bin .lss (.t 34) (.t 36), none, none, [], none⟩]
def ac_ref01_Row_24 : AC := .reg l_ref01_Row_24
def ac_ref01_Row_25 : AC := .cond (.t 37) .skip (.exit 2)
def ac_ref01_Row_26 : AC := .seq ac_ref01_Row_24 ac_ref01_Row_25
def l_ref01_Row_27 : List AOp := [⟨(some 41), .mv (.t 0), none, none, [], none⟩,
  ⟨(some 42), .mv (.t 8), none, none, [], none⟩,
  ⟨(some 43), .isl 1 (.t 41) (.t 42), none, none, [], none⟩,
  ⟨(some 44), .load none (.t 43), none, none, [], none⟩,
  ⟨(some 45), .mv (.t 1), none, none, [], none⟩,
  ⟨(some 46), .mv (.t 8), none, none, [], none⟩,
  ⟨(some 47), .isl 1 (.t 45) (.t 46), none, none, [], none⟩,
  ⟨(some 48), .load none (.t 47), none, none, [], none⟩,
  ⟨(some 49), .call false 27 [(.t 44), (.t 48)], none, none, [], none⟩,
  ⟨(some 40), .mv (.t 49), none, none, [], none⟩,
  ⟨(some 50), .ext 0 (.t 40), none, none, [], none⟩,
  ⟨(some 51), .ext 1 (.t 40), none, none, [], none⟩,
  ⟨(some 9), .mv (.t 50), none, none, [], none⟩,
  ⟨(some 10), .mv (.t 51), none, none, [], none⟩]
def ac_ref01_Row_27 : AC := .dreg 0 l_ref01_Row_27
def l_ref01_Row_28 : List AOp := [⟨(some 52), .mv (.t 10), none, none, [], none⟩,
  ⟨(some 53), .un .not (.t 52), none, none, [], none⟩]
def ac_ref01_Row_28 : AC := .reg l_ref01_Row_28
def l_ref01_Row_29 : List AOp := [⟨(some 4), .mv (.k (.str [])), none, none, [], none⟩,
  ⟨(some 5), .mv (.k (.int .i64 2)), none, none, [], none⟩]
def ac_ref01_Row_29 : AC := .reg l_ref01_Row_29
def ac_ref01_Row_30 : AC := .seq ac_ref01_Row_29 .ret
def ac_ref01_Row_31 : AC := .cond (.t 53) ac_ref01_Row_30 .skip
def ac_ref01_Row_32 : AC := .seq ac_ref01_Row_28 ac_ref01_Row_31
def l_ref01_Row_33 : List AOp := [⟨(some 54), .mv (.t 7), none, none, [], none⟩,
  ⟨(some 55), .mv (.t 9), none, none, [], none⟩,
  ⟨(some 56), .bin .add (.t 54) (.t 55), none, none, [], none⟩,
  ⟨(some 7), .mv (.t 56), none, none, [], none⟩]
def ac_ref01_Row_33 : AC := .reg l_ref01_Row_33
def ac_ref01_Row_34 : AC := .seq ac_ref01_Row_32 ac_ref01_Row_33
def ac_ref01_Row_35 : AC := .seq ac_ref01_Row_27 ac_ref01_Row_34
def ac_ref01_Row_36 : AC := .block 3 ac_ref01_Row_35
def l_ref01_Row_37 : List AOp := [⟨(some 38), .mv (.t 8), none, none, [], none⟩,
  ⟨(some 39), .bin .add (.t 38) (.k (.int .i64 1)), none, none, [], none⟩,
  ⟨(some 8), .mv (.t 39), none, none, [], none⟩]
def ac_ref01_Row_37 : AC := .reg l_ref01_Row_37
def ac_ref01_Row_38 : AC := .seq ac_ref01_Row_36 ac_ref01_Row_37
def ac_ref01_Row_39 : AC := .seq ac_ref01_Row_26 ac_ref01_Row_38
def ac_ref01_Row_40 : AC := .loop [0, 1, 7, 8] 0 ac_ref01_Row_39
def ac_ref01_Row_41 : AC := .block 2 ac_ref01_Row_40
def ac_ref01_Row_42 : AC := .seq ac_ref01_Row_23 ac_ref01_Row_41
def l_ref01_Row_43 : List AOp := [⟨(some 57), .mv (.t 7), none, none, [], none⟩,
  ⟨(some 4), .mv (.t 57), none, none, [], none⟩,
  ⟨(some 5), .mv (.k (.int .i64 0)), none, none, [], none⟩]
def ac_ref01_Row_43 : AC := .reg l_ref01_Row_43
def ac_ref01_Row_44 : AC := .seq ac_ref01_Row_43 .ret
def ac_ref01_Row_45 : AC := .seq ac_ref01_Row_42 ac_ref01_Row_44
def ac_ref01_Row_46 : AC := .seq ac_ref01_Row_22 ac_ref01_Row_45
def ac_ref01_Row_47 : AC := .seq ac_ref01_Row_21 ac_ref01_Row_46
def ac_ref01_Row_48 : AC := .seq ac_ref01_Row_5 ac_ref01_Row_47
def ac_ref01_Row_49 : AC := .seq ac_ref01_Row_0 ac_ref01_Row_48
def ac_ref01_Row : AC := ac_ref01_Row_49
theorem comp_ref01_Row : compF Try.prog [] (drawR Try.prog [] Try.f21.ntmps) [([0, 1, 6], 0), ([0, 1, 7, 8], 0)] 2 Try.f21 = some (ac_ref01_Row, [.t 4, .t 5]) := by kernel_rfl
def U_ref01_Row := (And.intro (And.intro (And.intro (And.intro (And.intro (And.intro (And.intro @ac_ref01_Row.eq_1 (@mR _ _ ac_ref01_Row_0.eq_1)) (@mR _ _ ac_ref01_Row_1.eq_1)) (And.intro (@mR _ _ ac_ref01_Row_2.eq_1) (@mU _ _ ac_ref01_Row_3.eq_1))) (And.intro (And.intro (@mU _ _ ac_ref01_Row_4.eq_1) (@mU _ _ ac_ref01_Row_5.eq_1)) (And.intro (@mR _ _ ac_ref01_Row_6.eq_1) (@mR _ _ ac_ref01_Row_7.eq_1)))) (And.intro (And.intro (And.intro (@mU _ _ ac_ref01_Row_8.eq_1) (@mU _ _ ac_ref01_Row_9.eq_1)) (And.intro (@mR _ _ ac_ref01_Row_10.eq_1) (@mR _ _ ac_ref01_Row_11.eq_1))) (And.intro (And.intro (@mU _ _ ac_ref01_Row_12.eq_1) (@mU _ _ ac_ref01_Row_13.eq_1)) (And.intro (@mU _ _ ac_ref01_Row_14.eq_1) (@mU _ _ ac_ref01_Row_15.eq_1))))) (And.intro (And.intro (And.intro (And.intro (And.intro (@mR _ _ ac_ref01_Row_16.eq_1) (@mU _ _ ac_ref01_Row_17.eq_1)) (@mU _ _ ac_ref01_Row_18.eq_1)) (And.intro (@mU _ _ ac_ref01_Row_19.eq_1) (@mU _ _ ac_ref01_Row_20.eq_1))) (And.intro (And.intro (@mU _ _ ac_ref01_Row_21.eq_1) (@mR _ _ ac_ref01_Row_22.eq_1)) (And.intro (@mR _ _ ac_ref01_Row_23.eq_1) (@mR _ _ ac_ref01_Row_24.eq_1)))) (And.intro (And.intro (And.intro (@mU _ _ ac_ref01_Row_25.eq_1) (@mU _ _ ac_ref01_Row_26.eq_1)) (And.intro (@mD _ _ _ ac_ref01_Row_27.eq_1) (@mR _ _ ac_ref01_Row_28.eq_1))) (And.intro (And.intro (@mR _ _ ac_ref01_Row_29.eq_1) (@mU _ _ ac_ref01_Row_30.eq_1)) (And.intro (@mU _ _ ac_ref01_Row_31.eq_1) (@mU _ _ ac_ref01_Row_32.eq_1)))))) (And.intro (And.intro (And.intro (And.intro (And.intro (And.intro (@mR _ _ ac_ref01_Row_33.eq_1) (@mU _ _ ac_ref01_Row_34.eq_1)) (@mU _ _ ac_ref01_Row_35.eq_1)) (And.intro (@mU _ _ ac_ref01_Row_36.eq_1) (@mR _ _ ac_ref01_Row_37.eq_1))) (And.intro (And.intro (@mU _ _ ac_ref01_Row_38.eq_1) (@mU _ _ ac_ref01_Row_39.eq_1)) (And.intro (@mU _ _ ac_ref01_Row_40.eq_1) (@mU _ _ ac_ref01_Row_41.eq_1)))) (And.intro (And.intro (And.intro (@mU _ _ ac_ref01_Row_42.eq_1) (@mR _ _ ac_ref01_Row_43.eq_1)) (And.intro (@mU _ _ ac_ref01_Row_44.eq_1) (@mU _ _ ac_ref01_Row_45.eq_1))) (And.intro (And.intro (@mU _ _ ac_ref01_Row_46.eq_1) (@mU _ _ ac_ref01_Row_47.eq_1)) (And.intro (@mU _ _ ac_ref01_Row_48.eq_1) (@mU _ _ ac_ref01_Row_49.eq_1))))) (And.intro (And.intro (And.intro (And.intro (And.intro @l_ref01_Row_0.eq_1 @l_ref01_Row_1.eq_1) @l_ref01_Row_2.eq_1) (And.intro @l_ref01_Row_6.eq_1 @l_ref01_Row_7.eq_1)) (And.intro (And.intro @l_ref01_Row_10.eq_1 @l_ref01_Row_11.eq_1) (And.intro @l_ref01_Row_16.eq_1 @l_ref01_Row_22.eq_1))) (And.intro (And.intro (And.intro @l_ref01_Row_23.eq_1 @l_ref01_Row_24.eq_1) (And.intro @l_ref01_Row_27.eq_1 @l_ref01_Row_28.eq_1)) (And.intro (And.intro @l_ref01_Row_29.eq_1 @l_ref01_Row_33.eq_1) (And.intro @l_ref01_Row_37.eq_1 @l_ref01_Row_43.eq_1))))))

/- scoria/field.Fill -/
def l_field_Fill_0 : List AOp := [⟨(some 6), .mv (.k (.str [])), none, none, [], none⟩,
  ⟨(some 7), .mv (.k (.int .i64 0)), none, none, [], none⟩]
def ac_field_Fill_0 : AC := .reg l_field_Fill_0
def l_field_Fill_1 : List AOp := [⟨(some 9), .mv (.t 1), none, none, [], none⟩,
  ⟨(some 10), .bin .lss (.t 9) (.k (.int .i64 0)), none, none, [], none⟩,
  ⟨(some 8), .mv (.t 10), none, none, [], none⟩]
def ac_field_Fill_1 : AC := .reg l_field_Fill_1
def l_field_Fill_2 : List AOp := [⟨(some 6), .mv (.k (.str [])), none, none, [], none⟩,
  ⟨(some 7), .mv (.k (.int .i64 1)), none, none, [], none⟩]
def ac_field_Fill_2 : AC := .reg l_field_Fill_2
def ac_field_Fill_3 : AC := .seq ac_field_Fill_2 .ret
def l_field_Fill_4 : List AOp := [⟨(some 12), .mv (.t 0), none, none, [], none⟩,
  ⟨(some 13), .lens (.t 12), none, none, [], none⟩,
  ⟨(some 14), .mv (.t 1), none, none, [], none⟩,
  ⟨(some 15), .bin .gtr (.t 13) (.t 14), none, none, [], none⟩,
  ⟨(some 11), .mv (.t 15), none, none, [], none⟩]
def ac_field_Fill_4 : AC := .reg l_field_Fill_4
def l_field_Fill_5 : List AOp := [⟨(some 6), .mv (.k (.str [])), none, none, [], none⟩,
  ⟨(some 7), .mv (.k (.int .i64 2)), none, none, [], none⟩]
def ac_field_Fill_5 : AC := .reg l_field_Fill_5
def ac_field_Fill_6 : AC := .seq ac_field_Fill_5 .ret
def ac_field_Fill_7 : AC := .cond (.t 11) ac_field_Fill_6 .skip
def ac_field_Fill_8 : AC := .seq ac_field_Fill_4 ac_field_Fill_7
def ac_field_Fill_9 : AC := .cond (.t 8) ac_field_Fill_3 ac_field_Fill_8
def ac_field_Fill_10 : AC := .seq ac_field_Fill_1 ac_field_Fill_9
def ac_field_Fill_11 : AC := .block 0 ac_field_Fill_10
def l_field_Fill_12 : List AOp := [⟨(some 16), .mv (.t 0), none, none, [], none⟩,
  ⟨(some 17), .mv (.t 2), none, none, [], none⟩,
  ⟨(some 18), .blds false [(.int .u8 0)] 1 [(0, (.t 17))], none, none, [], none⟩,
  ⟨(some 19), .b2s (.t 18), none, none, [], none⟩,
  ⟨(some 20), .mv (.t 1), none, none, [], none⟩,
  ⟨(some 21), .mv (.t 0), none, none, [], none⟩,
  ⟨(some 22), .lens (.t 21), none, none, [], none⟩,
  ⟨(some 23), .bin .sub (.t 20) (.t 22), none, none, [], none⟩,
  ⟨(some 24), .call false 32 [(.t 19), (.t 23)], none, none, [], none⟩,
  ⟨(some 25), .bin .add (.t 16) (.t 24), none, none, [], none⟩,
  ⟨(some 6), .mv (.t 25), none, none, [], none⟩,
  ⟨(some 7), .mv (.k (.int .i64 0)), none, none, [], none⟩]
def ac_field_Fill_12 : AC := .reg l_field_Fill_12
def ac_field_Fill_13 : AC := .seq ac_field_Fill_12 .ret
def ac_field_Fill_14 : AC := .seq ac_field_Fill_11 ac_field_Fill_13
def ac_field_Fill_15 : AC := .seq ac_field_Fill_0 ac_field_Fill_14
def ac_field_Fill : AC := ac_field_Fill_15
theorem comp_field_Fill : compF Try.prog [] (drawR Try.prog [] Try.f22.ntmps) [] 3 Try.f22 = some (ac_field_Fill, [.t 6, .t 7]) := by kernel_rfl
def U_field_Fill := (And.intro (And.intro (And.intro (And.intro (And.intro @ac_field_Fill.eq_1 (@mR _ _ ac_field_Fill_0.eq_1)) (@mR _ _ ac_field_Fill_1.eq_1)) (And.intro (And.intro (@mR _ _ ac_field_Fill_2.eq_1) (@mU _ _ ac_field_Fill_3.eq_1)) (@mR _ _ ac_field_Fill_4.eq_1))) (And.intro (And.intro (And.intro (@mR _ _ ac_field_Fill_5.eq_1) (@mU _ _ ac_field_Fill_6.eq_1)) (@mU _ _ ac_field_Fill_7.eq_1)) (And.intro (And.intro (@mU _ _ ac_field_Fill_8.eq_1) (@mU _ _ ac_field_Fill_9.eq_1)) (@mU _ _ ac_field_Fill_10.eq_1)))) (And.intro (And.intro (And.intro (And.intro (@mU _ _ ac_field_Fill_11.eq_1) (@mR _ _ ac_field_Fill_12.eq_1)) (@mU _ _ ac_field_Fill_13.eq_1)) (And.intro (And.intro (@mU _ _ ac_field_Fill_14.eq_1) (@mU _ _ ac_field_Fill_15.eq_1)) @l_field_Fill_0.eq_1)) (And.intro (And.intro (And.intro @l_field_Fill_1.eq_1 @l_field_Fill_2.eq_1) @l_field_Fill_4.eq_1) (And.intro @l_field_Fill_5.eq_1 @l_field_Fill_12.eq_1))))

/- scoria/scoriaref01.Fill -/
def l_ref01_Fill_0 : List AOp := [⟨(some 6), .mv (.k (.str [])), none, none, [], none⟩,
  ⟨(some 7), .mv (.k (.int .i64 0)), none, none, [], none⟩]
def ac_ref01_Fill_0 : AC := .reg l_ref01_Fill_0
def l_ref01_Fill_1 : List AOp := [⟨(some 10), .mv (.t 1), none, none, [], none⟩,
  ⟨(some 11), .bin .lss (.t 10) (.k (.int .i64 0)), none, none, [], none⟩]
def ac_ref01_Fill_1 : AC := .reg l_ref01_Fill_1
def l_ref01_Fill_2 : List AOp := [⟨(some 6), .mv (.k (.str [])), none, none, [], none⟩,
  ⟨(some 7), .mv (.k (.int .i64 1)), none, none, [], none⟩]
def ac_ref01_Fill_2 : AC := .reg l_ref01_Fill_2
def ac_ref01_Fill_3 : AC := .seq ac_ref01_Fill_2 .ret
def ac_ref01_Fill_4 : AC := .cond (.t 11) ac_ref01_Fill_3 .skip
def ac_ref01_Fill_5 : AC := .seq ac_ref01_Fill_1 ac_ref01_Fill_4
def l_ref01_Fill_6 : List AOp := [⟨(some 12), .mv (.t 0), none, none, [], none⟩,
  ⟨(some 13), .lens (.t 12), none, none, [], none⟩,
  ⟨(some 14), .mv (.t 1), none, none, [], none⟩,
  ⟨(some 15), .bin .gtr (.t 13) (.t 14), none, none, [], none⟩]
def ac_ref01_Fill_6 : AC := .reg l_ref01_Fill_6
def l_ref01_Fill_7 : List AOp := [⟨(some 6), .mv (.k (.str [])), none, none, [], none⟩,
  ⟨(some 7), .mv (.k (.int .i64 2)), none, none, [], none⟩]
def ac_ref01_Fill_7 : AC := .reg l_ref01_Fill_7
def ac_ref01_Fill_8 : AC := .seq ac_ref01_Fill_7 .ret
def ac_ref01_Fill_9 : AC := .cond (.t 15) ac_ref01_Fill_8 .skip
def ac_ref01_Fill_10 : AC := .seq ac_ref01_Fill_6 ac_ref01_Fill_9
def l_ref01_Fill_11 : List AOp := [⟨(some 8), .nilown 1, none, none, [], none⟩]
def ac_ref01_Fill_11 : AC := .reg l_ref01_Fill_11
def l_ref01_Fill_12 : List AOp := [⟨(some 16), .mv (.t 0), none, none, [], none⟩,
  ⟨(some 17), .lens (.t 16), none, none, [], none⟩,
  ⟨(some 9), .mv (.t 17), none, none, [], none⟩]
def ac_ref01_Fill_12 : AC := .reg l_ref01_Fill_12
def l_ref01_Fill_13 : List AOp := [⟨(some 18), .mv (.t 9), none, none, [], none⟩,
  ⟨(some 19), .mv (.t 1), none, none, [], none⟩,
  ⟨(some 20), .bin .lss (.t 18) (.t 19), none, none, [], none⟩]
def ac_ref01_Fill_13 : AC := .reg l_ref01_Fill_13
def ac_ref01_Fill_14 : AC := .cond (.t 20) .skip (.exit 0)
def ac_ref01_Fill_15 : AC := .seq ac_ref01_Fill_13 ac_ref01_Fill_14
def l_ref01_Fill_16 : List AOp := [⟨(some 23), .mv (.t 8), none, none, [], none⟩,
  ⟨(some 24), .mv (.t 2), none, none, [], none⟩,
  ⟨(some 25), .blds false [(.int .u8 0)] 1 [(0, (.t 24))], none, none, [], none⟩,
  ⟨(some 26), .app 1 1 [(.int .u8 0)] (.t 23) (.t 25), none, none, [], none⟩,
  ⟨(some 8), .mv (.t 26), none, none, [], none⟩]
def ac_ref01_Fill_16 : AC := .reg l_ref01_Fill_16
def ac_ref01_Fill_17 : AC := .block 1 ac_ref01_Fill_16
def l_ref01_Fill_18 : List AOp := [⟨(some 21), .mv (.t 9), none, none, [], none⟩,
  ⟨(some 22), .bin .add (.t 21) (.k (.int .i64 1)), none, none, [], none⟩,
  ⟨(some 9), .mv (.t 22), none, none, [], none⟩]
def ac_ref01_Fill_18 : AC := .reg l_ref01_Fill_18
def ac_ref01_Fill_19 : AC := .seq ac_ref01_Fill_17 ac_ref01_Fill_18
def ac_ref01_Fill_20 : AC := .seq ac_ref01_Fill_15 ac_ref01_Fill_19
def ac_ref01_Fill_21 : AC := .loop [0, 1, 2, 8, 9] 1 ac_ref01_Fill_20
def ac_ref01_Fill_22 : AC := .block 0 ac_ref01_Fill_21
def ac_ref01_Fill_23 : AC := .seq ac_ref01_Fill_12 ac_ref01_Fill_22
def l_ref01_Fill_24 : List AOp := [⟨(some 27), .mv (.t 0), none, none, [], none⟩,
  ⟨(some 28), .mv (.t 8), none, none, [], none⟩,
  ⟨(some 29), .b2s (.t 28), none, none, [], none⟩,
  ⟨(some 30), .bin .add (.t 27) (.t 29), none, none, [], none⟩,
  ⟨(some 6), .mv (.t 30), none, none, [], none⟩,
  ⟨(some 7), .mv (.k (.int .i64 0)), none, none, [], none⟩]
def ac_ref01_Fill_24 : AC := .reg l_ref01_Fill_24
def ac_ref01_Fill_25 : AC := .seq ac_ref01_Fill_24 .ret
def ac_ref01_Fill_26 : AC := .seq ac_ref01_Fill_23 ac_ref01_Fill_25
def ac_ref01_Fill_27 : AC := .seq ac_ref01_Fill_11 ac_ref01_Fill_26
def ac_ref01_Fill_28 : AC := .seq ac_ref01_Fill_10 ac_ref01_Fill_27
def ac_ref01_Fill_29 : AC := .seq ac_ref01_Fill_5 ac_ref01_Fill_28
def ac_ref01_Fill_30 : AC := .seq ac_ref01_Fill_0 ac_ref01_Fill_29
def ac_ref01_Fill : AC := ac_ref01_Fill_30
theorem comp_ref01_Fill : compF Try.prog [8] (drawR Try.prog [8] Try.f23.ntmps) [([0, 1, 2, 8, 9], 1)] 3 Try.f23 = some (ac_ref01_Fill, [.t 6, .t 7]) := by kernel_rfl
def U_ref01_Fill := (And.intro (And.intro (And.intro (And.intro (And.intro (And.intro @ac_ref01_Fill.eq_1 (@mR _ _ ac_ref01_Fill_0.eq_1)) (@mR _ _ ac_ref01_Fill_1.eq_1)) (And.intro (And.intro (@mR _ _ ac_ref01_Fill_2.eq_1) (@mU _ _ ac_ref01_Fill_3.eq_1)) (@mU _ _ ac_ref01_Fill_4.eq_1))) (And.intro (And.intro (And.intro (@mU _ _ ac_ref01_Fill_5.eq_1) (@mR _ _ ac_ref01_Fill_6.eq_1)) (@mR _ _ ac_ref01_Fill_7.eq_1)) (And.intro (@mU _ _ ac_ref01_Fill_8.eq_1) (@mU _ _ ac_ref01_Fill_9.eq_1)))) (And.intro (And.intro (And.intro (And.intro (@mU _ _ ac_ref01_Fill_10.eq_1) (@mR _ _ ac_ref01_Fill_11.eq_1)) (@mR _ _ ac_ref01_Fill_12.eq_1)) (And.intro (And.intro (@mR _ _ ac_ref01_Fill_13.eq_1) (@mU _ _ ac_ref01_Fill_14.eq_1)) (@mU _ _ ac_ref01_Fill_15.eq_1))) (And.intro (And.intro (And.intro (@mR _ _ ac_ref01_Fill_16.eq_1) (@mU _ _ ac_ref01_Fill_17.eq_1)) (@mR _ _ ac_ref01_Fill_18.eq_1)) (And.intro (@mU _ _ ac_ref01_Fill_19.eq_1) (@mU _ _ ac_ref01_Fill_20.eq_1))))) (And.intro (And.intro (And.intro (And.intro (And.intro (@mU _ _ ac_ref01_Fill_21.eq_1) (@mU _ _ ac_ref01_Fill_22.eq_1)) (@mU _ _ ac_ref01_Fill_23.eq_1)) (And.intro (And.intro (@mR _ _ ac_ref01_Fill_24.eq_1) (@mU _ _ ac_ref01_Fill_25.eq_1)) (@mU _ _ ac_ref01_Fill_26.eq_1))) (And.intro (And.intro (And.intro (@mU _ _ ac_ref01_Fill_27.eq_1) (@mU _ _ ac_ref01_Fill_28.eq_1)) (@mU _ _ ac_ref01_Fill_29.eq_1)) (And.intro (@mU _ _ ac_ref01_Fill_30.eq_1) @l_ref01_Fill_0.eq_1))) (And.intro (And.intro (And.intro (And.intro @l_ref01_Fill_1.eq_1 @l_ref01_Fill_2.eq_1) @l_ref01_Fill_6.eq_1) (And.intro @l_ref01_Fill_7.eq_1 @l_ref01_Fill_11.eq_1)) (And.intro (And.intro (And.intro @l_ref01_Fill_12.eq_1 @l_ref01_Fill_13.eq_1) @l_ref01_Fill_16.eq_1) (And.intro @l_ref01_Fill_18.eq_1 @l_ref01_Fill_24.eq_1)))))

/- scoria/field.width -/
def l_field_width_0 : List AOp := [⟨(some 2), .mv (.k (.bool false)), none, none, [], none⟩]
def ac_field_width_0 : AC := .reg l_field_width_0
def l_field_width_1 : List AOp := [⟨(some 3), .mv (.t 0), none, none, [], none⟩,
  ⟨(some 4), .bin .geq (.t 3) (.k (.int .i64 1)), none, none, [], none⟩,
  ⟨(some 5), .mv (.t 4), none, none, [], none⟩,
  ⟨(some 6), .mv (.t 0), (some (5, true)), none, [], none⟩,
  ⟨(some 7), .bin .leq (.t 6) (.k (.int .i64 8)), (some (5, true)), none, [], none⟩,
  ⟨(some 8), .pick (.t 5) (.t 7) (.k (.bool false)), none, none, [], none⟩,
  ⟨(some 2), .mv (.t 8), none, none, [], none⟩]
def ac_field_width_1 : AC := .reg l_field_width_1
def ac_field_width_2 : AC := .seq ac_field_width_1 .ret
def ac_field_width_3 : AC := .seq ac_field_width_0 ac_field_width_2
def ac_field_width : AC := ac_field_width_3
theorem comp_field_width : compF Try.prog [] (drawR Try.prog [] Try.f24.ntmps) [] 1 Try.f24 = some (ac_field_width, [.t 2]) := by kernel_rfl
def U_field_width := (And.intro (And.intro (And.intro @ac_field_width.eq_1 (@mR _ _ ac_field_width_0.eq_1)) (And.intro (@mR _ _ ac_field_width_1.eq_1) (@mU _ _ ac_field_width_2.eq_1))) (And.intro (And.intro (@mU _ _ ac_field_width_3.eq_1) @l_field_width_0.eq_1) @l_field_width_1.eq_1))

/- scoria/field.fits -/
def l_field_fits_0 : List AOp := [⟨(some 4), .mv (.k (.bool false)), none, none, [], none⟩]
def ac_field_fits_0 : AC := .reg l_field_fits_0
def l_field_fits_1 : List AOp := [⟨(some 5), .mv (.t 1), none, none, [], none⟩,
  ⟨(some 6), .bin .eql (.t 5) (.k (.int .i64 8)), none, none, [], none⟩,
  ⟨(some 7), .mv (.t 6), none, none, [], none⟩,
  ⟨(some 8), .mv (.t 0), (some (7, false)), none, [], none⟩,
  ⟨(some 9), .mv (.t 1), (some (7, false)), none, [], none⟩,
  ⟨(some 10), .bin .mul (.k (.int .i64 8)) (.t 9), (some (7, false)), none, [], none⟩,
  ⟨(some 11), .bin .shr (.t 8) (.t 10), (some (7, false)), none, [], none⟩,
  ⟨(some 12), .bin .eql (.t 11) (.k (.int .u64 0)), (some (7, false)), none, [], none⟩,
  ⟨(some 13), .pick (.t 7) (.k (.bool true)) (.t 12), none, none, [], none⟩,
  ⟨(some 4), .mv (.t 13), none, none, [], none⟩]
def ac_field_fits_1 : AC := .reg l_field_fits_1
def ac_field_fits_2 : AC := .seq ac_field_fits_1 .ret
def ac_field_fits_3 : AC := .seq ac_field_fits_0 ac_field_fits_2
def ac_field_fits : AC := ac_field_fits_3
theorem comp_field_fits : compF Try.prog [] (drawR Try.prog [] Try.f25.ntmps) [] 2 Try.f25 = some (ac_field_fits, [.t 4]) := by kernel_rfl
def U_field_fits := (And.intro (And.intro (And.intro @ac_field_fits.eq_1 (@mR _ _ ac_field_fits_0.eq_1)) (And.intro (@mR _ _ ac_field_fits_1.eq_1) (@mU _ _ ac_field_fits_2.eq_1))) (And.intro (And.intro (@mU _ _ ac_field_fits_3.eq_1) @l_field_fits_0.eq_1) @l_field_fits_1.eq_1))

/- scoria/field.laid -/
def l_field_laid_0 : List AOp := [⟨(some 4), .mv (.k (.str [])), none, none, [], none⟩]
def ac_field_laid_0 : AC := .reg l_field_laid_0
def l_field_laid_1 : List AOp := [⟨(some 5), .alloc (List.replicate 8 (.int .u8 0)), none, none, [], none⟩]
def ac_field_laid_1 : AC := .reg l_field_laid_1
def l_field_laid_2 : List AOp := [⟨(some 6), .mv (.t 1), none, none, [], none⟩]
def ac_field_laid_2 : AC := .reg l_field_laid_2
def l_field_laid_3 : List AOp := [⟨(some 8), .bin .eql (.t 6) (.k (.int .i64 8)), none, none, [], none⟩,
  ⟨(some 7), .mv (.t 8), none, none, [], none⟩]
def ac_field_laid_3 : AC := .reg l_field_laid_3
def ac_field_laid_4 : AC := .cond (.t 7) (.exit 1) .skip
def ac_field_laid_5 : AC := .seq ac_field_laid_3 ac_field_laid_4
def l_field_laid_6 : List AOp := [⟨(some 10), .bin .eql (.t 6) (.k (.int .i64 7)), none, none, [], none⟩,
  ⟨(some 9), .mv (.t 10), none, none, [], none⟩]
def ac_field_laid_6 : AC := .reg l_field_laid_6
def ac_field_laid_7 : AC := .cond (.t 9) (.exit 2) .skip
def ac_field_laid_8 : AC := .seq ac_field_laid_6 ac_field_laid_7
def l_field_laid_9 : List AOp := [⟨(some 12), .bin .eql (.t 6) (.k (.int .i64 6)), none, none, [], none⟩,
  ⟨(some 11), .mv (.t 12), none, none, [], none⟩]
def ac_field_laid_9 : AC := .reg l_field_laid_9
def ac_field_laid_10 : AC := .cond (.t 11) (.exit 3) .skip
def ac_field_laid_11 : AC := .seq ac_field_laid_9 ac_field_laid_10
def l_field_laid_12 : List AOp := [⟨(some 14), .bin .eql (.t 6) (.k (.int .i64 5)), none, none, [], none⟩,
  ⟨(some 13), .mv (.t 14), none, none, [], none⟩]
def ac_field_laid_12 : AC := .reg l_field_laid_12
def ac_field_laid_13 : AC := .cond (.t 13) (.exit 4) .skip
def ac_field_laid_14 : AC := .seq ac_field_laid_12 ac_field_laid_13
def l_field_laid_15 : List AOp := [⟨(some 16), .bin .eql (.t 6) (.k (.int .i64 4)), none, none, [], none⟩,
  ⟨(some 15), .mv (.t 16), none, none, [], none⟩]
def ac_field_laid_15 : AC := .reg l_field_laid_15
def ac_field_laid_16 : AC := .cond (.t 15) (.exit 5) .skip
def ac_field_laid_17 : AC := .seq ac_field_laid_15 ac_field_laid_16
def l_field_laid_18 : List AOp := [⟨(some 18), .bin .eql (.t 6) (.k (.int .i64 3)), none, none, [], none⟩,
  ⟨(some 17), .mv (.t 18), none, none, [], none⟩]
def ac_field_laid_18 : AC := .reg l_field_laid_18
def ac_field_laid_19 : AC := .cond (.t 17) (.exit 6) .skip
def ac_field_laid_20 : AC := .seq ac_field_laid_18 ac_field_laid_19
def l_field_laid_21 : List AOp := [⟨(some 20), .bin .eql (.t 6) (.k (.int .i64 2)), none, none, [], none⟩,
  ⟨(some 19), .mv (.t 20), none, none, [], none⟩]
def ac_field_laid_21 : AC := .reg l_field_laid_21
def ac_field_laid_22 : AC := .cond (.t 19) (.exit 7) .skip
def ac_field_laid_23 : AC := .seq ac_field_laid_21 ac_field_laid_22
def l_field_laid_24 : List AOp := [⟨(some 22), .bin .eql (.t 6) (.k (.int .i64 1)), none, none, [], none⟩,
  ⟨(some 21), .mv (.t 22), none, none, [], none⟩]
def ac_field_laid_24 : AC := .reg l_field_laid_24
def ac_field_laid_25 : AC := .cond (.t 21) (.exit 8) .skip
def ac_field_laid_26 : AC := .seq ac_field_laid_24 ac_field_laid_25
def ac_field_laid_27 : AC := .seq ac_field_laid_23 ac_field_laid_26
def ac_field_laid_28 : AC := .seq ac_field_laid_20 ac_field_laid_27
def ac_field_laid_29 : AC := .seq ac_field_laid_17 ac_field_laid_28
def ac_field_laid_30 : AC := .seq ac_field_laid_14 ac_field_laid_29
def ac_field_laid_31 : AC := .seq ac_field_laid_11 ac_field_laid_30
def ac_field_laid_32 : AC := .seq ac_field_laid_8 ac_field_laid_31
def ac_field_laid_33 : AC := .seq ac_field_laid_5 ac_field_laid_32
def ac_field_laid_34 : AC := .seq ac_field_laid_33 (.exit 0)
def ac_field_laid_35 : AC := .block 1 ac_field_laid_34
def l_field_laid_36 : List AOp := [⟨(some 23), .mv (.t 0), none, none, [], none⟩,
  ⟨(some 24), .bin .shr (.t 23) (.k (.int .u64 56)), none, none, [], none⟩,
  ⟨(some 25), .conv .u8 (.t 24), none, none, [], none⟩,
  ⟨(some 26), .iarr 1 8 (.t 5) (.k (.int .i64 7)), none, none, [], none⟩,
  ⟨none, .store 1 (.t 26) (.t 25), none, none, [], none⟩]
def ac_field_laid_36 : AC := .reg l_field_laid_36
def ac_field_laid_37 : AC := .seq ac_field_laid_35 ac_field_laid_36
def ac_field_laid_38 : AC := .block 2 ac_field_laid_37
def l_field_laid_39 : List AOp := [⟨(some 27), .mv (.t 0), none, none, [], none⟩,
  ⟨(some 28), .bin .shr (.t 27) (.k (.int .u64 48)), none, none, [], none⟩,
  ⟨(some 29), .conv .u8 (.t 28), none, none, [], none⟩,
  ⟨(some 30), .iarr 1 8 (.t 5) (.k (.int .i64 6)), none, none, [], none⟩,
  ⟨none, .store 1 (.t 30) (.t 29), none, none, [], none⟩]
def ac_field_laid_39 : AC := .reg l_field_laid_39
def ac_field_laid_40 : AC := .seq ac_field_laid_38 ac_field_laid_39
def ac_field_laid_41 : AC := .block 3 ac_field_laid_40
def l_field_laid_42 : List AOp := [⟨(some 31), .mv (.t 0), none, none, [], none⟩,
  ⟨(some 32), .bin .shr (.t 31) (.k (.int .u64 40)), none, none, [], none⟩,
  ⟨(some 33), .conv .u8 (.t 32), none, none, [], none⟩,
  ⟨(some 34), .iarr 1 8 (.t 5) (.k (.int .i64 5)), none, none, [], none⟩,
  ⟨none, .store 1 (.t 34) (.t 33), none, none, [], none⟩]
def ac_field_laid_42 : AC := .reg l_field_laid_42
def ac_field_laid_43 : AC := .seq ac_field_laid_41 ac_field_laid_42
def ac_field_laid_44 : AC := .block 4 ac_field_laid_43
def l_field_laid_45 : List AOp := [⟨(some 35), .mv (.t 0), none, none, [], none⟩,
  ⟨(some 36), .bin .shr (.t 35) (.k (.int .u64 32)), none, none, [], none⟩,
  ⟨(some 37), .conv .u8 (.t 36), none, none, [], none⟩,
  ⟨(some 38), .iarr 1 8 (.t 5) (.k (.int .i64 4)), none, none, [], none⟩,
  ⟨none, .store 1 (.t 38) (.t 37), none, none, [], none⟩]
def ac_field_laid_45 : AC := .reg l_field_laid_45
def ac_field_laid_46 : AC := .seq ac_field_laid_44 ac_field_laid_45
def ac_field_laid_47 : AC := .block 5 ac_field_laid_46
def l_field_laid_48 : List AOp := [⟨(some 39), .mv (.t 0), none, none, [], none⟩,
  ⟨(some 40), .bin .shr (.t 39) (.k (.int .u64 24)), none, none, [], none⟩,
  ⟨(some 41), .conv .u8 (.t 40), none, none, [], none⟩,
  ⟨(some 42), .iarr 1 8 (.t 5) (.k (.int .i64 3)), none, none, [], none⟩,
  ⟨none, .store 1 (.t 42) (.t 41), none, none, [], none⟩]
def ac_field_laid_48 : AC := .reg l_field_laid_48
def ac_field_laid_49 : AC := .seq ac_field_laid_47 ac_field_laid_48
def ac_field_laid_50 : AC := .block 6 ac_field_laid_49
def l_field_laid_51 : List AOp := [⟨(some 43), .mv (.t 0), none, none, [], none⟩,
  ⟨(some 44), .bin .shr (.t 43) (.k (.int .u64 16)), none, none, [], none⟩,
  ⟨(some 45), .conv .u8 (.t 44), none, none, [], none⟩,
  ⟨(some 46), .iarr 1 8 (.t 5) (.k (.int .i64 2)), none, none, [], none⟩,
  ⟨none, .store 1 (.t 46) (.t 45), none, none, [], none⟩]
def ac_field_laid_51 : AC := .reg l_field_laid_51
def ac_field_laid_52 : AC := .seq ac_field_laid_50 ac_field_laid_51
def ac_field_laid_53 : AC := .block 7 ac_field_laid_52
def l_field_laid_54 : List AOp := [⟨(some 47), .mv (.t 0), none, none, [], none⟩,
  ⟨(some 48), .bin .shr (.t 47) (.k (.int .u64 8)), none, none, [], none⟩,
  ⟨(some 49), .conv .u8 (.t 48), none, none, [], none⟩,
  ⟨(some 50), .iarr 1 8 (.t 5) (.k (.int .i64 1)), none, none, [], none⟩,
  ⟨none, .store 1 (.t 50) (.t 49), none, none, [], none⟩]
def ac_field_laid_54 : AC := .reg l_field_laid_54
def ac_field_laid_55 : AC := .seq ac_field_laid_53 ac_field_laid_54
def ac_field_laid_56 : AC := .block 8 ac_field_laid_55
def l_field_laid_57 : List AOp := [⟨(some 51), .mv (.t 0), none, none, [], none⟩,
  ⟨(some 52), .conv .u8 (.t 51), none, none, [], none⟩,
  ⟨(some 53), .iarr 1 8 (.t 5) (.k (.int .i64 0)), none, none, [], none⟩,
  ⟨none, .store 1 (.t 53) (.t 52), none, none, [], none⟩]
def ac_field_laid_57 : AC := .reg l_field_laid_57
def ac_field_laid_58 : AC := .seq ac_field_laid_57 (.exit 0)
def ac_field_laid_59 : AC := .seq ac_field_laid_56 ac_field_laid_58
def ac_field_laid_60 : AC := .block 0 ac_field_laid_59
def ac_field_laid_61 : AC := .seq ac_field_laid_2 ac_field_laid_60
def l_field_laid_62 : List AOp := [⟨(some 54), .mv (.t 1), none, none, [], none⟩,
  ⟨(some 55), .sarr 1 8 (.t 5) none (some (.t 54)), none, none, [], none⟩,
  ⟨(some 56), .b2s (.t 55), none, none, [], none⟩,
  ⟨(some 4), .mv (.t 56), none, none, [], none⟩]
def ac_field_laid_62 : AC := .reg l_field_laid_62
def ac_field_laid_63 : AC := .seq ac_field_laid_62 .ret
def ac_field_laid_64 : AC := .seq ac_field_laid_61 ac_field_laid_63
def ac_field_laid_65 : AC := .seq ac_field_laid_1 ac_field_laid_64
def ac_field_laid_66 : AC := .seq ac_field_laid_0 ac_field_laid_65
def ac_field_laid : AC := ac_field_laid_66
theorem comp_field_laid : compF Try.prog [] (drawR Try.prog [] Try.f26.ntmps) [] 2 Try.f26 = some (ac_field_laid, [.t 4]) := by kernel_rfl
def U_field_laid := (And.intro (And.intro (And.intro (And.intro (And.intro (And.intro (And.intro @ac_field_laid.eq_1 (@mR _ _ ac_field_laid_0.eq_1)) (@mR _ _ ac_field_laid_1.eq_1)) (And.intro (And.intro (@mR _ _ ac_field_laid_2.eq_1) (@mR _ _ ac_field_laid_3.eq_1)) (@mU _ _ ac_field_laid_4.eq_1))) (And.intro (And.intro (And.intro (@mU _ _ ac_field_laid_5.eq_1) (@mR _ _ ac_field_laid_6.eq_1)) (@mU _ _ ac_field_laid_7.eq_1)) (And.intro (@mU _ _ ac_field_laid_8.eq_1) (@mR _ _ ac_field_laid_9.eq_1)))) (And.intro (And.intro (And.intro (And.intro (@mU _ _ ac_field_laid_10.eq_1) (@mU _ _ ac_field_laid_11.eq_1)) (@mR _ _ ac_field_laid_12.eq_1)) (And.intro (And.intro (@mU _ _ ac_field_laid_13.eq_1) (@mU _ _ ac_field_laid_14.eq_1)) (@mR _ _ ac_field_laid_15.eq_1))) (And.intro (And.intro (And.intro (@mU _ _ ac_field_laid_16.eq_1) (@mU _ _ ac_field_laid_17.eq_1)) (@mR _ _ ac_field_laid_18.eq_1)) (And.intro (@mU _ _ ac_field_laid_19.eq_1) (@mU _ _ ac_field_laid_20.eq_1))))) (And.intro (And.intro (And.intro (And.intro (And.intro (@mR _ _ ac_field_laid_21.eq_1) (@mU _ _ ac_field_laid_22.eq_1)) (@mU _ _ ac_field_laid_23.eq_1)) (And.intro (And.intro (@mR _ _ ac_field_laid_24.eq_1) (@mU _ _ ac_field_laid_25.eq_1)) (@mU _ _ ac_field_laid_26.eq_1))) (And.intro (And.intro (And.intro (@mU _ _ ac_field_laid_27.eq_1) (@mU _ _ ac_field_laid_28.eq_1)) (@mU _ _ ac_field_laid_29.eq_1)) (And.intro (@mU _ _ ac_field_laid_30.eq_1) (@mU _ _ ac_field_laid_31.eq_1)))) (And.intro (And.intro (And.intro (And.intro (@mU _ _ ac_field_laid_32.eq_1) (@mU _ _ ac_field_laid_33.eq_1)) (@mU _ _ ac_field_laid_34.eq_1)) (And.intro (And.intro (@mU _ _ ac_field_laid_35.eq_1) (@mR _ _ ac_field_laid_36.eq_1)) (@mU _ _ ac_field_laid_37.eq_1))) (And.intro (And.intro (And.intro (@mU _ _ ac_field_laid_38.eq_1) (@mR _ _ ac_field_laid_39.eq_1)) (@mU _ _ ac_field_laid_40.eq_1)) (And.intro (@mU _ _ ac_field_laid_41.eq_1) (@mR _ _ ac_field_laid_42.eq_1)))))) (And.intro (And.intro (And.intro (And.intro (And.intro (And.intro (@mU _ _ ac_field_laid_43.eq_1) (@mU _ _ ac_field_laid_44.eq_1)) (@mR _ _ ac_field_laid_45.eq_1)) (And.intro (And.intro (@mU _ _ ac_field_laid_46.eq_1) (@mU _ _ ac_field_laid_47.eq_1)) (@mR _ _ ac_field_laid_48.eq_1))) (And.intro (And.intro (And.intro (@mU _ _ ac_field_laid_49.eq_1) (@mU _ _ ac_field_laid_50.eq_1)) (@mR _ _ ac_field_laid_51.eq_1)) (And.intro (@mU _ _ ac_field_laid_52.eq_1) (@mU _ _ ac_field_laid_53.eq_1)))) (And.intro (And.intro (And.intro (And.intro (@mR _ _ ac_field_laid_54.eq_1) (@mU _ _ ac_field_laid_55.eq_1)) (@mU _ _ ac_field_laid_56.eq_1)) (And.intro (And.intro (@mR _ _ ac_field_laid_57.eq_1) (@mU _ _ ac_field_laid_58.eq_1)) (@mU _ _ ac_field_laid_59.eq_1))) (And.intro (And.intro (And.intro (@mU _ _ ac_field_laid_60.eq_1) (@mU _ _ ac_field_laid_61.eq_1)) (@mR _ _ ac_field_laid_62.eq_1)) (And.intro (@mU _ _ ac_field_laid_63.eq_1) (@mU _ _ ac_field_laid_64.eq_1))))) (And.intro (And.intro (And.intro (And.intro (And.intro (@mU _ _ ac_field_laid_65.eq_1) (@mU _ _ ac_field_laid_66.eq_1)) @l_field_laid_0.eq_1) (And.intro (And.intro @l_field_laid_1.eq_1 @l_field_laid_2.eq_1) @l_field_laid_3.eq_1)) (And.intro (And.intro (And.intro @l_field_laid_6.eq_1 @l_field_laid_9.eq_1) @l_field_laid_12.eq_1) (And.intro @l_field_laid_15.eq_1 @l_field_laid_18.eq_1))) (And.intro (And.intro (And.intro (And.intro @l_field_laid_21.eq_1 @l_field_laid_24.eq_1) @l_field_laid_36.eq_1) (And.intro (And.intro @l_field_laid_39.eq_1 @l_field_laid_42.eq_1) @l_field_laid_45.eq_1)) (And.intro (And.intro (And.intro @l_field_laid_48.eq_1 @l_field_laid_51.eq_1) @l_field_laid_54.eq_1) (And.intro @l_field_laid_57.eq_1 @l_field_laid_62.eq_1))))))

/- scoria/scoriaref01.field -/
def l_ref01_field_0 : List AOp := [⟨(some 4), .mv (.k (.str [])), none, none, [], none⟩,
  ⟨(some 5), .mv (.k (.bool false)), none, none, [], none⟩]
def ac_ref01_field_0 : AC := .reg l_ref01_field_0
def l_ref01_field_1 : List AOp := [⟨(some 6), .nilown 1, none, none, [], none⟩]
def ac_ref01_field_1 : AC := .reg l_ref01_field_1
def l_ref01_field_2 : List AOp := [⟨(some 7), .mv (.k (.int .i64 0)), none, none, [], none⟩]
def ac_ref01_field_2 : AC := .reg l_ref01_field_2
def l_ref01_field_3 : List AOp := [⟨(some 8), .mv (.t 7), none, none, [], none⟩,
  ⟨(some 9), .mv (.t 1), none, none, [], none⟩,
  ⟨(some 10), .bin .lss (.t 8) (.t 9), none, none, [], none⟩]
def ac_ref01_field_3 : AC := .reg l_ref01_field_3
def ac_ref01_field_4 : AC := .cond (.t 10) .skip (.exit 0)
def ac_ref01_field_5 : AC := .seq ac_ref01_field_3 ac_ref01_field_4
def l_ref01_field_6 : List AOp := [⟨(some 13), .mv (.t 6), none, none, [], none⟩,
  ⟨(some 14), .mv (.t 0), none, none, [], none⟩,
  ⟨(some 15), .bin .rem (.t 14) (.k (.int .u64 256)), none, none, [], none⟩,
  ⟨(some 16), .conv .u8 (.t 15), none, none, [], none⟩,
  ⟨(some 17), .blds false [(.int .u8 0)] 1 [(0, (.t 16))], none, none, [], none⟩,
  ⟨(some 18), .app 1 1 [(.int .u8 0)] (.t 13) (.t 17), none, none, [], none⟩,
  ⟨(some 6), .mv (.t 18), none, none, [], none⟩]
def ac_ref01_field_6 : AC := .reg l_ref01_field_6
def l_ref01_field_7 : List AOp := [⟨(some 19), .mv (.t 0), none, none, [], none⟩,
  ⟨(some 20), .bin .quo (.t 19) (.k (.int .u64 256)), none, none, [], none⟩,
  ⟨(some 0), .mv (.t 20), none, none, [], none⟩]
def ac_ref01_field_7 : AC := .reg l_ref01_field_7
def ac_ref01_field_8 : AC := .seq ac_ref01_field_6 ac_ref01_field_7
def ac_ref01_field_9 : AC := .block 1 ac_ref01_field_8
def l_ref01_field_10 : List AOp := [⟨(some 11), .mv (.t 7), none, none, [], none⟩,
  ⟨(some 12), .bin .add (.t 11) (.k (.int .i64 1)), none, none, [], none⟩,
  ⟨(some 7), .mv (.t 12), none, none, [], none⟩]
def ac_ref01_field_10 : AC := .reg l_ref01_field_10
def ac_ref01_field_11 : AC := .seq ac_ref01_field_9 ac_ref01_field_10
def ac_ref01_field_12 : AC := .seq ac_ref01_field_5 ac_ref01_field_11
def ac_ref01_field_13 : AC := .loop [0, 1, 6, 7] 1 ac_ref01_field_12
def ac_ref01_field_14 : AC := .block 0 ac_ref01_field_13
def ac_ref01_field_15 : AC := .seq ac_ref01_field_2 ac_ref01_field_14
def l_ref01_field_16 : List AOp := [⟨(some 21), .mv (.t 6), none, none, [], none⟩,
  ⟨(some 22), .b2s (.t 21), none, none, [], none⟩,
  ⟨(some 23), .mv (.t 0), none, none, [], none⟩,
  ⟨(some 24), .bin .eql (.t 23) (.k (.int .u64 0)), none, none, [], none⟩,
  ⟨(some 4), .mv (.t 22), none, none, [], none⟩,
  ⟨(some 5), .mv (.t 24), none, none, [], none⟩]
def ac_ref01_field_16 : AC := .reg l_ref01_field_16
def ac_ref01_field_17 : AC := .seq ac_ref01_field_16 .ret
def ac_ref01_field_18 : AC := .seq ac_ref01_field_15 ac_ref01_field_17
def ac_ref01_field_19 : AC := .seq ac_ref01_field_1 ac_ref01_field_18
def ac_ref01_field_20 : AC := .seq ac_ref01_field_0 ac_ref01_field_19
def ac_ref01_field : AC := ac_ref01_field_20
theorem comp_ref01_field : compF Try.prog [6] (drawR Try.prog [6] Try.f27.ntmps) [([0, 1, 6, 7], 1)] 2 Try.f27 = some (ac_ref01_field, [.t 4, .t 5]) := by kernel_rfl
def U_ref01_field := (And.intro (And.intro (And.intro (And.intro (And.intro @ac_ref01_field.eq_1 (@mR _ _ ac_ref01_field_0.eq_1)) (And.intro (@mR _ _ ac_ref01_field_1.eq_1) (@mR _ _ ac_ref01_field_2.eq_1))) (And.intro (And.intro (@mR _ _ ac_ref01_field_3.eq_1) (@mU _ _ ac_ref01_field_4.eq_1)) (And.intro (@mU _ _ ac_ref01_field_5.eq_1) (@mR _ _ ac_ref01_field_6.eq_1)))) (And.intro (And.intro (And.intro (@mR _ _ ac_ref01_field_7.eq_1) (@mU _ _ ac_ref01_field_8.eq_1)) (And.intro (@mU _ _ ac_ref01_field_9.eq_1) (@mR _ _ ac_ref01_field_10.eq_1))) (And.intro (And.intro (@mU _ _ ac_ref01_field_11.eq_1) (@mU _ _ ac_ref01_field_12.eq_1)) (@mU _ _ ac_ref01_field_13.eq_1)))) (And.intro (And.intro (And.intro (And.intro (@mU _ _ ac_ref01_field_14.eq_1) (@mU _ _ ac_ref01_field_15.eq_1)) (And.intro (@mR _ _ ac_ref01_field_16.eq_1) (@mU _ _ ac_ref01_field_17.eq_1))) (And.intro (And.intro (@mU _ _ ac_ref01_field_18.eq_1) (@mU _ _ ac_ref01_field_19.eq_1)) (And.intro (@mU _ _ ac_ref01_field_20.eq_1) @l_ref01_field_0.eq_1))) (And.intro (And.intro (And.intro @l_ref01_field_1.eq_1 @l_ref01_field_2.eq_1) (And.intro @l_ref01_field_3.eq_1 @l_ref01_field_6.eq_1)) (And.intro (And.intro @l_ref01_field_7.eq_1 @l_ref01_field_10.eq_1) @l_ref01_field_16.eq_1))))

/- slices.ContainsFunc[[]int,int] -/
def l_slices_ContainsFunc_int_0 : List AOp := [⟨(some 4), .mv (.k (.bool false)), none, none, [], none⟩]
def ac_slices_ContainsFunc_int_0 : AC := .reg l_slices_ContainsFunc_int_0
def l_slices_ContainsFunc_int_1 : List AOp := [⟨(some 5), .mv (.t 0), none, none, [], none⟩,
  ⟨(some 6), .mv (.t 1), none, none, [], none⟩,
  ⟨(some 7), .call false 33 [(.t 5), (.t 6)], none, none, [], none⟩,
  ⟨(some 8), .bin .geq (.t 7) (.k (.int .i64 0)), none, none, [], none⟩,
  ⟨(some 4), .mv (.t 8), none, none, [], none⟩]
def ac_slices_ContainsFunc_int_1 : AC := .reg l_slices_ContainsFunc_int_1
def ac_slices_ContainsFunc_int_2 : AC := .seq ac_slices_ContainsFunc_int_1 .ret
def ac_slices_ContainsFunc_int_3 : AC := .seq ac_slices_ContainsFunc_int_0 ac_slices_ContainsFunc_int_2
def ac_slices_ContainsFunc_int : AC := ac_slices_ContainsFunc_int_3
theorem comp_slices_ContainsFunc_int : compF Try.prog [] (drawR Try.prog [] Try.f28.ntmps) [] 2 Try.f28 = some (ac_slices_ContainsFunc_int, [.t 4]) := by kernel_rfl
def U_slices_ContainsFunc_int := (And.intro (And.intro (And.intro @ac_slices_ContainsFunc_int.eq_1 (@mR _ _ ac_slices_ContainsFunc_int_0.eq_1)) (And.intro (@mR _ _ ac_slices_ContainsFunc_int_1.eq_1) (@mU _ _ ac_slices_ContainsFunc_int_2.eq_1))) (And.intro (And.intro (@mU _ _ ac_slices_ContainsFunc_int_3.eq_1) @l_slices_ContainsFunc_int_0.eq_1) @l_slices_ContainsFunc_int_1.eq_1))

/- scoria/field.wrong -/
def l_field_wrong_0 : List AOp := [⟨(some 2), .mv (.k (.bool false)), none, none, [], none⟩]
def ac_field_wrong_0 : AC := .reg l_field_wrong_0
def l_field_wrong_1 : List AOp := [⟨(some 3), .mv (.t 0), none, none, [], none⟩,
  ⟨(some 4), .call false 24 [(.t 3)], none, none, [], none⟩,
  ⟨(some 5), .un .not (.t 4), none, none, [], none⟩,
  ⟨(some 2), .mv (.t 5), none, none, [], none⟩]
def ac_field_wrong_1 : AC := .reg l_field_wrong_1
def ac_field_wrong_2 : AC := .seq ac_field_wrong_1 .ret
def ac_field_wrong_3 : AC := .seq ac_field_wrong_0 ac_field_wrong_2
def ac_field_wrong : AC := ac_field_wrong_3
theorem comp_field_wrong : compF Try.prog [] (drawR Try.prog [] Try.f29.ntmps) [] 1 Try.f29 = some (ac_field_wrong, [.t 2]) := by kernel_rfl
def U_field_wrong := (And.intro (And.intro (And.intro @ac_field_wrong.eq_1 (@mR _ _ ac_field_wrong_0.eq_1)) (And.intro (@mR _ _ ac_field_wrong_1.eq_1) (@mU _ _ ac_field_wrong_2.eq_1))) (And.intro (And.intro (@mU _ _ ac_field_wrong_3.eq_1) @l_field_wrong_0.eq_1) @l_field_wrong_1.eq_1))

/- (*strings.Builder).WriteString -/
def l_strings_Builder_WriteString_0 : List AOp := [⟨(some 4), .mv (.k (.int .i64 0)), none, none, [], none⟩,
  ⟨(some 5), .mv (.k .nili), none, none, [], none⟩]
def ac_strings_Builder_WriteString_0 : AC := .reg l_strings_Builder_WriteString_0
def l_strings_Builder_WriteString_1 : List AOp := [⟨(some 6), .mv (.t 0), none, none, [], none⟩,
  ⟨(some 7), .icall 34 [(.t 6)], none, none, [], none⟩]
def ac_strings_Builder_WriteString_1 : AC := .reg l_strings_Builder_WriteString_1
def l_strings_Builder_WriteString_2 : List AOp := [⟨(some 8), .mv (.t 0), none, none, [], none⟩,
  ⟨(some 9), .mv (.t 0), none, none, [], none⟩,
  ⟨(some 10), .nilck (.t 9), none, none, [], none⟩,
  ⟨(some 11), .faddr 1 (.t 10), none, none, [], none⟩,
  ⟨(some 12), .load none (.t 11), none, none, [], none⟩,
  ⟨(some 13), .mv (.t 1), none, none, [], none⟩,
  ⟨(some 14), .apps 5 (.t 12) (.t 13), none, none, [], none⟩,
  ⟨(some 15), .nilck (.t 8), none, none, [], none⟩,
  ⟨(some 16), .faddr 1 (.t 15), none, none, [], none⟩,
  ⟨none, .store 1 (.t 16) (.t 14), none, none, [], none⟩]
def ac_strings_Builder_WriteString_2 : AC := .reg l_strings_Builder_WriteString_2
def l_strings_Builder_WriteString_3 : List AOp := [⟨(some 17), .mv (.t 1), none, none, [], none⟩,
  ⟨(some 18), .lens (.t 17), none, none, [], none⟩,
  ⟨(some 4), .mv (.t 18), none, none, [], none⟩,
  ⟨(some 5), .mv (.k .nili), none, none, [], none⟩]
def ac_strings_Builder_WriteString_3 : AC := .reg l_strings_Builder_WriteString_3
def ac_strings_Builder_WriteString_4 : AC := .seq ac_strings_Builder_WriteString_3 .ret
def ac_strings_Builder_WriteString_5 : AC := .seq ac_strings_Builder_WriteString_2 ac_strings_Builder_WriteString_4
def ac_strings_Builder_WriteString_6 : AC := .seq ac_strings_Builder_WriteString_1 ac_strings_Builder_WriteString_5
def ac_strings_Builder_WriteString_7 : AC := .seq ac_strings_Builder_WriteString_0 ac_strings_Builder_WriteString_6
def ac_strings_Builder_WriteString : AC := ac_strings_Builder_WriteString_7
theorem comp_strings_Builder_WriteString : compF Try.prog [1000034] (drawR Try.prog [1000034] Try.f30.ntmps) [] 2 Try.f30 = some (ac_strings_Builder_WriteString, [.t 4, .t 5]) := by kernel_rfl
def U_strings_Builder_WriteString := (And.intro (And.intro (And.intro (And.intro @ac_strings_Builder_WriteString.eq_1 (@mR _ _ ac_strings_Builder_WriteString_0.eq_1)) (And.intro (@mR _ _ ac_strings_Builder_WriteString_1.eq_1) (@mR _ _ ac_strings_Builder_WriteString_2.eq_1))) (And.intro (And.intro (@mR _ _ ac_strings_Builder_WriteString_3.eq_1) (@mU _ _ ac_strings_Builder_WriteString_4.eq_1)) (@mU _ _ ac_strings_Builder_WriteString_5.eq_1))) (And.intro (And.intro (And.intro (@mU _ _ ac_strings_Builder_WriteString_6.eq_1) (@mU _ _ ac_strings_Builder_WriteString_7.eq_1)) @l_strings_Builder_WriteString_0.eq_1) (And.intro (And.intro @l_strings_Builder_WriteString_1.eq_1 @l_strings_Builder_WriteString_2.eq_1) @l_strings_Builder_WriteString_3.eq_1)))

/- (*strings.Builder).String -/
def l_strings_Builder_String_0 : List AOp := [⟨(some 2), .mv (.k (.str [])), none, none, [], none⟩]
def ac_strings_Builder_String_0 : AC := .reg l_strings_Builder_String_0
def l_strings_Builder_String_1 : List AOp := [⟨(some 3), .mv (.t 0), none, none, [], none⟩,
  ⟨(some 4), .nilck (.t 3), none, none, [], none⟩,
  ⟨(some 5), .faddr 1 (.t 4), none, none, [], none⟩,
  ⟨(some 6), .load none (.t 5), none, none, [], none⟩,
  ⟨(some 7), .usd (.t 6), none, none, [], none⟩,
  ⟨(some 8), .mv (.t 0), none, none, [], none⟩,
  ⟨(some 9), .nilck (.t 8), none, none, [], none⟩,
  ⟨(some 10), .faddr 1 (.t 9), none, none, [], none⟩,
  ⟨(some 11), .load none (.t 10), none, none, [], none⟩,
  ⟨(some 12), .len (.t 11), none, none, [], none⟩,
  ⟨(some 13), .ust 5 (.t 7) (.t 12), none, none, [], none⟩,
  ⟨(some 2), .mv (.t 13), none, none, [], none⟩]
def ac_strings_Builder_String_1 : AC := .dreg 0 l_strings_Builder_String_1
def ac_strings_Builder_String_2 : AC := .seq ac_strings_Builder_String_1 .ret
def ac_strings_Builder_String_3 : AC := .seq ac_strings_Builder_String_0 ac_strings_Builder_String_2
def ac_strings_Builder_String : AC := ac_strings_Builder_String_3
theorem comp_strings_Builder_String : compF Try.prog [] (drawR Try.prog [] Try.f31.ntmps) [] 1 Try.f31 = some (ac_strings_Builder_String, [.t 2]) := by kernel_rfl
def U_strings_Builder_String := (And.intro (And.intro (And.intro @ac_strings_Builder_String.eq_1 (@mR _ _ ac_strings_Builder_String_0.eq_1)) (And.intro (@mD _ _ _ ac_strings_Builder_String_1.eq_1) (@mU _ _ ac_strings_Builder_String_2.eq_1))) (And.intro (And.intro (@mU _ _ ac_strings_Builder_String_3.eq_1) @l_strings_Builder_String_0.eq_1) @l_strings_Builder_String_1.eq_1))

/- slices.IndexFunc[[]int,int] -/
def l_slices_IndexFunc_int_0 : List AOp := [⟨(some 4), .mv (.k (.int .i64 0)), none, none, [], none⟩]
def ac_slices_IndexFunc_int_0 : AC := .reg l_slices_IndexFunc_int_0
def l_slices_IndexFunc_int_1 : List AOp := [⟨(some 6), .mv (.t 0), none, none, [], none⟩,
  ⟨(some 7), .len (.t 6), none, none, [], none⟩,
  ⟨(some 8), .mv (.k (.int .i64 0)), none, none, [], none⟩]
def ac_slices_IndexFunc_int_1 : AC := .reg l_slices_IndexFunc_int_1
def l_slices_IndexFunc_int_2 : List AOp := [⟨(some 9), .bin .lss (.t 8) (.t 7), none, none, [], none⟩]
def ac_slices_IndexFunc_int_2 : AC := .reg l_slices_IndexFunc_int_2
def ac_slices_IndexFunc_int_3 : AC := .cond (.t 9) .skip (.exit 0)
def l_slices_IndexFunc_int_4 : List AOp := [⟨(some 10), .mv (.t 8), none, none, [], none⟩,
  ⟨(some 5), .mv (.t 10), none, none, [], none⟩]
def ac_slices_IndexFunc_int_4 : AC := .reg l_slices_IndexFunc_int_4
def l_slices_IndexFunc_int_5 : List AOp := [⟨(some 11), .mv (.t 1), none, none, [], none⟩,
  ⟨(some 12), .mv (.t 0), none, none, [], none⟩,
  ⟨(some 13), .mv (.t 5), none, none, [], none⟩,
  ⟨(some 14), .isl 1 (.t 12) (.t 13), none, none, [], none⟩,
  ⟨(some 15), .load none (.t 14), none, none, [], none⟩,
  ⟨(some 16), .callv (.t 11) [(.t 15)], none, none, [], none⟩]
def ac_slices_IndexFunc_int_5 : AC := .reg l_slices_IndexFunc_int_5
def l_slices_IndexFunc_int_6 : List AOp := [⟨(some 17), .mv (.t 5), none, none, [], none⟩,
  ⟨(some 4), .mv (.t 17), none, none, [], none⟩]
def ac_slices_IndexFunc_int_6 : AC := .reg l_slices_IndexFunc_int_6
def ac_slices_IndexFunc_int_7 : AC := .seq ac_slices_IndexFunc_int_6 .ret
def ac_slices_IndexFunc_int_8 : AC := .cond (.t 16) ac_slices_IndexFunc_int_7 .skip
def ac_slices_IndexFunc_int_9 : AC := .seq ac_slices_IndexFunc_int_5 ac_slices_IndexFunc_int_8
def ac_slices_IndexFunc_int_10 : AC := .seq ac_slices_IndexFunc_int_4 ac_slices_IndexFunc_int_9
def ac_slices_IndexFunc_int_11 : AC := .block 1 ac_slices_IndexFunc_int_10
def l_slices_IndexFunc_int_12 : List AOp := [⟨(some 18), .bin .add (.t 8) (.k (.int .i64 1)), none, none, [], none⟩,
  ⟨(some 8), .mv (.t 18), none, none, [], none⟩]
def ac_slices_IndexFunc_int_12 : AC := .reg l_slices_IndexFunc_int_12
def ac_slices_IndexFunc_int_13 : AC := .seq ac_slices_IndexFunc_int_11 ac_slices_IndexFunc_int_12
def ac_slices_IndexFunc_int_14 : AC := .seq ac_slices_IndexFunc_int_3 ac_slices_IndexFunc_int_13
def ac_slices_IndexFunc_int_15 : AC := .seq ac_slices_IndexFunc_int_2 ac_slices_IndexFunc_int_14
def ac_slices_IndexFunc_int_16 : AC := .loop [0, 1, 7, 8] 0 ac_slices_IndexFunc_int_15
def ac_slices_IndexFunc_int_17 : AC := .block 0 ac_slices_IndexFunc_int_16
def ac_slices_IndexFunc_int_18 : AC := .seq ac_slices_IndexFunc_int_1 ac_slices_IndexFunc_int_17
def l_slices_IndexFunc_int_19 : List AOp := [⟨(some 4), .mv (.k (.int .i64 (-1))), none, none, [], none⟩]
def ac_slices_IndexFunc_int_19 : AC := .reg l_slices_IndexFunc_int_19
def ac_slices_IndexFunc_int_20 : AC := .seq ac_slices_IndexFunc_int_19 .ret
def ac_slices_IndexFunc_int_21 : AC := .seq ac_slices_IndexFunc_int_18 ac_slices_IndexFunc_int_20
def ac_slices_IndexFunc_int_22 : AC := .seq ac_slices_IndexFunc_int_0 ac_slices_IndexFunc_int_21
def ac_slices_IndexFunc_int : AC := ac_slices_IndexFunc_int_22
theorem comp_slices_IndexFunc_int : compF Try.prog [] (drawR Try.prog [] Try.f33.ntmps) [([0, 1, 7, 8], 0)] 2 Try.f33 = some (ac_slices_IndexFunc_int, [.t 4]) := by kernel_rfl
def U_slices_IndexFunc_int := (And.intro (And.intro (And.intro (And.intro (And.intro @ac_slices_IndexFunc_int.eq_1 (@mR _ _ ac_slices_IndexFunc_int_0.eq_1)) (And.intro (@mR _ _ ac_slices_IndexFunc_int_1.eq_1) (@mR _ _ ac_slices_IndexFunc_int_2.eq_1))) (And.intro (And.intro (@mU _ _ ac_slices_IndexFunc_int_3.eq_1) (@mR _ _ ac_slices_IndexFunc_int_4.eq_1)) (And.intro (@mR _ _ ac_slices_IndexFunc_int_5.eq_1) (@mR _ _ ac_slices_IndexFunc_int_6.eq_1)))) (And.intro (And.intro (And.intro (@mU _ _ ac_slices_IndexFunc_int_7.eq_1) (@mU _ _ ac_slices_IndexFunc_int_8.eq_1)) (And.intro (@mU _ _ ac_slices_IndexFunc_int_9.eq_1) (@mU _ _ ac_slices_IndexFunc_int_10.eq_1))) (And.intro (And.intro (@mU _ _ ac_slices_IndexFunc_int_11.eq_1) (@mR _ _ ac_slices_IndexFunc_int_12.eq_1)) (And.intro (@mU _ _ ac_slices_IndexFunc_int_13.eq_1) (@mU _ _ ac_slices_IndexFunc_int_14.eq_1))))) (And.intro (And.intro (And.intro (And.intro (@mU _ _ ac_slices_IndexFunc_int_15.eq_1) (@mU _ _ ac_slices_IndexFunc_int_16.eq_1)) (And.intro (@mU _ _ ac_slices_IndexFunc_int_17.eq_1) (@mU _ _ ac_slices_IndexFunc_int_18.eq_1))) (And.intro (And.intro (@mR _ _ ac_slices_IndexFunc_int_19.eq_1) (@mU _ _ ac_slices_IndexFunc_int_20.eq_1)) (And.intro (@mU _ _ ac_slices_IndexFunc_int_21.eq_1) (@mU _ _ ac_slices_IndexFunc_int_22.eq_1)))) (And.intro (And.intro (And.intro @l_slices_IndexFunc_int_0.eq_1 @l_slices_IndexFunc_int_1.eq_1) (And.intro @l_slices_IndexFunc_int_2.eq_1 @l_slices_IndexFunc_int_4.eq_1)) (And.intro (And.intro @l_slices_IndexFunc_int_5.eq_1 @l_slices_IndexFunc_int_6.eq_1) (And.intro @l_slices_IndexFunc_int_12.eq_1 @l_slices_IndexFunc_int_19.eq_1)))))

/- (*strings.Builder).Len -/
def l_strings_Builder_Len_0 : List AOp := [⟨(some 2), .mv (.k (.int .i64 0)), none, none, [], none⟩]
def ac_strings_Builder_Len_0 : AC := .reg l_strings_Builder_Len_0
def l_strings_Builder_Len_1 : List AOp := [⟨(some 3), .mv (.t 0), none, none, [], none⟩,
  ⟨(some 4), .nilck (.t 3), none, none, [], none⟩,
  ⟨(some 5), .faddr 1 (.t 4), none, none, [], none⟩,
  ⟨(some 6), .load none (.t 5), none, none, [], none⟩,
  ⟨(some 7), .len (.t 6), none, none, [], none⟩,
  ⟨(some 2), .mv (.t 7), none, none, [], none⟩]
def ac_strings_Builder_Len_1 : AC := .reg l_strings_Builder_Len_1
def ac_strings_Builder_Len_2 : AC := .seq ac_strings_Builder_Len_1 .ret
def ac_strings_Builder_Len_3 : AC := .seq ac_strings_Builder_Len_0 ac_strings_Builder_Len_2
def ac_strings_Builder_Len : AC := ac_strings_Builder_Len_3
theorem comp_strings_Builder_Len : compF Try.prog [] (drawR Try.prog [] Try.f38.ntmps) [] 1 Try.f38 = some (ac_strings_Builder_Len, [.t 2]) := by kernel_rfl
def U_strings_Builder_Len := (And.intro (And.intro (And.intro @ac_strings_Builder_Len.eq_1 (@mR _ _ ac_strings_Builder_Len_0.eq_1)) (And.intro (@mR _ _ ac_strings_Builder_Len_1.eq_1) (@mU _ _ ac_strings_Builder_Len_2.eq_1))) (And.intro (And.intro (@mU _ _ ac_strings_Builder_Len_3.eq_1) @l_strings_Builder_Len_0.eq_1) @l_strings_Builder_Len_1.eq_1))

end Go.Proofs.Ytamaonfdonfkaaa.Aw
