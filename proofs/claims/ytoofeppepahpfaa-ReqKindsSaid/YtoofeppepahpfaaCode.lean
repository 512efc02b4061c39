/-
  The functions of the seat, translated to abstract code. Written by a program (wip/Gen2.lean).
-/
import Derived.Test.YtoofeppepahpfaaAwBun
import Derived.Test.YtoofeppepahpfaaProg
set_option maxRecDepth 100000
set_option linter.all false
namespace Go.Proofs.Ytoofeppepahpfaa.Aw
open Go.RowKit
/- scoria/req.Name -/
def l_req_Name_0 : List AOp := [⟨(some 2), .mv (.k (.str [])), none, none, [], none⟩]
def ac_req_Name_0 : AC := .reg l_req_Name_0
def l_req_Name_1 : List AOp := [⟨(some 3), .mv (.t 0), none, none, [], none⟩,
  ⟨(some 4), .bin .lss (.t 3) (.k (.int .i64 1)), none, none, [], none⟩,
  ⟨(some 5), .mv (.t 4), none, none, [], none⟩,
  ⟨(some 6), .mv (.t 0), (some (5, false)), none, [], none⟩,
  ⟨(some 7), .bin .gtr (.t 6) (.k (.int .i64 10)), (some (5, false)), none, [], none⟩,
  ⟨(some 8), .pick (.t 5) (.k (.bool true)) (.t 7), none, none, [], none⟩]
def ac_req_Name_1 : AC := .reg l_req_Name_1
def l_req_Name_2 : List AOp := [⟨(some 2), .mv (.k (.str [63])), none, none, [], none⟩]
def ac_req_Name_2 : AC := .reg l_req_Name_2
def ac_req_Name_3 : AC := .seq ac_req_Name_2 .ret
def ac_req_Name_4 : AC := .cond (.t 8) ac_req_Name_3 .skip
def ac_req_Name_5 : AC := .seq ac_req_Name_1 ac_req_Name_4
def l_req_Name_6 : List AOp := [⟨(some 9), .build (List.replicate 11 (.str [])) [(0, 1, (.k (.str []))), (1, 1, (.k (.str [99, 114, 101, 97, 116, 101]))), (2, 1, (.k (.str [114, 101, 115, 105, 122, 101]))), (3, 1, (.k (.str [100, 101, 108, 101, 116, 101]))), (4, 1, (.k (.str [119, 114, 105, 116, 101]))), (5, 1, (.k (.str [122, 101, 114, 111]))), (6, 1, (.k (.str [116, 114, 105, 109]))), (7, 1, (.k (.str [114, 101, 97, 100]))), (8, 1, (.k (.str [102, 108, 117, 115, 104]))), (9, 1, (.k (.str [105, 110, 102, 111]))), (10, 1, (.k (.str [108, 105, 115, 116])))], none, none, [], none⟩,
  ⟨(some 10), .mv (.t 0), none, none, [], none⟩,
  ⟨(some 11), .idxa none 1 11 (.t 9) (.t 10), none, none, [], none⟩,
  ⟨(some 2), .mv (.t 11), none, none, [], none⟩]
def ac_req_Name_6 : AC := .reg l_req_Name_6
def ac_req_Name_7 : AC := .seq ac_req_Name_6 .ret
def ac_req_Name_8 : AC := .seq ac_req_Name_5 ac_req_Name_7
def ac_req_Name_9 : AC := .seq ac_req_Name_0 ac_req_Name_8
def ac_req_Name : AC := ac_req_Name_9
theorem comp_req_Name : compF Try.prog [] (drawR Try.prog [] Try.f9.ntmps) [] 1 Try.f9 = some (ac_req_Name, [.t 2]) := by kernel_rfl
def U_req_Name := (And.intro (And.intro (And.intro (And.intro @ac_req_Name.eq_1 (@mR _ _ ac_req_Name_0.eq_1)) (And.intro (@mR _ _ ac_req_Name_1.eq_1) (@mR _ _ ac_req_Name_2.eq_1))) (And.intro (And.intro (@mU _ _ ac_req_Name_3.eq_1) (@mU _ _ ac_req_Name_4.eq_1)) (And.intro (@mU _ _ ac_req_Name_5.eq_1) (@mR _ _ ac_req_Name_6.eq_1)))) (And.intro (And.intro (And.intro (@mU _ _ ac_req_Name_7.eq_1) (@mU _ _ ac_req_Name_8.eq_1)) (And.intro (@mU _ _ ac_req_Name_9.eq_1) @l_req_Name_0.eq_1)) (And.intro (And.intro @l_req_Name_1.eq_1 @l_req_Name_2.eq_1) @l_req_Name_6.eq_1)))

/- scoria/req.Changes -/
def l_req_Changes_0 : List AOp := [⟨(some 2), .mv (.k (.bool false)), none, none, [], none⟩]
def ac_req_Changes_0 : AC := .reg l_req_Changes_0
def l_req_Changes_1 : List AOp := [⟨(some 3), .mv (.t 0), none, none, [], none⟩,
  ⟨(some 4), .bin .geq (.t 3) (.k (.int .i64 1)), none, none, [], none⟩,
  ⟨(some 5), .mv (.t 4), none, none, [], none⟩,
  ⟨(some 6), .mv (.t 0), (some (5, true)), none, [], none⟩,
  ⟨(some 7), .bin .leq (.t 6) (.k (.int .i64 6)), (some (5, true)), none, [], none⟩,
  ⟨(some 8), .pick (.t 5) (.t 7) (.k (.bool false)), none, none, [], none⟩,
  ⟨(some 2), .mv (.t 8), none, none, [], none⟩]
def ac_req_Changes_1 : AC := .reg l_req_Changes_1
def ac_req_Changes_2 : AC := .seq ac_req_Changes_1 .ret
def ac_req_Changes_3 : AC := .seq ac_req_Changes_0 ac_req_Changes_2
def ac_req_Changes : AC := ac_req_Changes_3
theorem comp_req_Changes : compF Try.prog [] (drawR Try.prog [] Try.f10.ntmps) [] 1 Try.f10 = some (ac_req_Changes, [.t 2]) := by kernel_rfl
def U_req_Changes := (And.intro (And.intro (And.intro @ac_req_Changes.eq_1 (@mR _ _ ac_req_Changes_0.eq_1)) (And.intro (@mR _ _ ac_req_Changes_1.eq_1) (@mU _ _ ac_req_Changes_2.eq_1))) (And.intro (And.intro (@mU _ _ ac_req_Changes_3.eq_1) @l_req_Changes_0.eq_1) @l_req_Changes_1.eq_1))

/- scoria/req.Write -/
def l_req_Write_0 : List AOp := [⟨(some 1), .box (.t 0), none, none, [], none⟩,
  ⟨(some 2), .mv (.k (.str [])), none, none, [], none⟩,
  ⟨(some 3), .mv (.k (.int .i64 0)), none, none, [], none⟩]
def ac_req_Write_0 : AC := .reg l_req_Write_0
def l_req_Write_1 : List AOp := [⟨(some 9), .load (some 5) (.t 1), none, none, [], none⟩,
  ⟨(some 10), .call false 22 [(.t 9)], none, none, [], none⟩,
  ⟨(some 8), .mv (.t 10), none, none, [], none⟩,
  ⟨(some 11), .ext 0 (.t 8), none, none, [], none⟩,
  ⟨(some 12), .ext 1 (.t 8), none, none, [], none⟩,
  ⟨(some 4), .alloc [(.int .i64 0), (.int .i64 0), (.int .i64 0), (.int .i64 0), (.str [])], none, none, [], none⟩,
  ⟨none, .store 5 (.t 4) (.t 11), none, none, [], none⟩,
  ⟨(some 5), .mv (.t 12), none, none, [], none⟩]
def ac_req_Write_1 : AC := .reg l_req_Write_1
def l_req_Write_2 : List AOp := [⟨(some 13), .mv (.t 5), none, none, [], none⟩,
  ⟨(some 14), .un .not (.t 13), none, none, [], none⟩,
  ⟨(some 15), .mv (.t 14), none, none, [], none⟩,
  ⟨(some 16), .load (some 5) (.t 4), (some (15, false)), none, [], none⟩,
  ⟨(some 17), .load (some 5) (.t 1), (some (15, false)), none, [], none⟩,
  ⟨(some 18), .eqs true [.i, .i, .i, .i, .s] (.t 16) (.t 17), (some (15, false)), none, [], none⟩,
  ⟨(some 19), .pick (.t 15) (.k (.bool true)) (.t 18), none, none, [], none⟩,
  ⟨(some 20), .mv (.t 19), none, none, [], none⟩,
  ⟨(some 21), .faddr 1 (.t 1), (some (20, false)), none, [], none⟩,
  ⟨(some 22), .load none (.t 21), (some (20, false)), none, [], none⟩,
  ⟨(some 23), .faddr 2 (.t 1), (some (20, false)), none, [], none⟩,
  ⟨(some 24), .load none (.t 23), (some (20, false)), none, [], none⟩,
  ⟨(some 25), .faddr 3 (.t 1), (some (20, false)), none, [], none⟩,
  ⟨(some 26), .load none (.t 25), (some (20, false)), none, [], none⟩,
  ⟨(some 27), .blds false [(.int .i64 0)] 3 [(0, (.t 22)), (1, (.t 24)), (2, (.t 26))], (some (20, false)), none, [], none⟩,
  ⟨(some 28), .call false 23 [(.t 27)], (some (20, false)), none, [], none⟩,
  ⟨(some 29), .un .not (.t 28), (some (20, false)), none, [], none⟩,
  ⟨(some 30), .pick (.t 20) (.k (.bool true)) (.t 29), none, none, [], none⟩,
  ⟨(some 31), .mv (.t 30), none, none, [], none⟩,
  ⟨(some 32), .faddr 4 (.t 1), (some (31, false)), none, [], none⟩,
  ⟨(some 33), .load none (.t 32), (some (31, false)), none, [], none⟩,
  ⟨(some 34), .lens (.t 33), (some (31, false)), none, [], none⟩,
  ⟨(some 35), .bin .gtr (.t 34) (.k (.int .i64 512)), (some (31, false)), none, [], none⟩,
  ⟨(some 36), .pick (.t 31) (.k (.bool true)) (.t 35), none, none, [], none⟩]
def ac_req_Write_2 : AC := .reg l_req_Write_2
def l_req_Write_3 : List AOp := [⟨(some 2), .mv (.k (.str [])), none, none, [], none⟩,
  ⟨(some 3), .mv (.k (.int .i64 1)), none, none, [], none⟩]
def ac_req_Write_3 : AC := .reg l_req_Write_3
def ac_req_Write_4 : AC := .seq ac_req_Write_3 .ret
def ac_req_Write_5 : AC := .cond (.t 36) ac_req_Write_4 .skip
def ac_req_Write_6 : AC := .seq ac_req_Write_2 ac_req_Write_5
def l_req_Write_7 : List AOp := [⟨(some 38), .faddr 0 (.t 1), none, none, [], none⟩,
  ⟨(some 39), .load none (.t 38), none, none, [], none⟩,
  ⟨(some 40), .faddr 1 (.t 1), none, none, [], none⟩,
  ⟨(some 41), .load none (.t 40), none, none, [], none⟩,
  ⟨(some 42), .faddr 2 (.t 1), none, none, [], none⟩,
  ⟨(some 43), .load none (.t 42), none, none, [], none⟩,
  ⟨(some 44), .faddr 3 (.t 1), none, none, [], none⟩,
  ⟨(some 45), .load none (.t 44), none, none, [], none⟩,
  ⟨(some 46), .faddr 4 (.t 1), none, none, [], none⟩,
  ⟨(some 47), .load none (.t 46), none, none, [], none⟩,
  ⟨(some 48), .lens (.t 47), none, none, [], none⟩,
  ⟨(some 49), .blds false [(.int .i64 0)] 5 [(0, (.t 39)), (1, (.t 41)), (2, (.t 43)), (3, (.t 45)), (4, (.t 48))], none, none, [], none⟩,
  ⟨(some 50), .call false 25 [(.t 49)], none, none, [], none⟩,
  ⟨(some 51), .call false 26 [], none, none, [], none⟩,
  ⟨(some 52), .call false 24 [(.t 50), (.t 51)], none, none, [], none⟩,
  ⟨(some 37), .mv (.t 52), none, none, [], none⟩,
  ⟨(some 53), .ext 0 (.t 37), none, none, [], none⟩,
  ⟨(some 54), .ext 1 (.t 37), none, none, [], none⟩,
  ⟨(some 6), .mv (.t 53), none, none, [], none⟩,
  ⟨(some 7), .mv (.t 54), none, none, [], none⟩]
def ac_req_Write_7 : AC := .reg l_req_Write_7
def l_req_Write_8 : List AOp := [⟨(some 55), .mv (.t 7), none, none, [], none⟩,
  ⟨(some 56), .bin .neq (.t 55) (.k (.int .i64 0)), none, none, [], none⟩]
def ac_req_Write_8 : AC := .reg l_req_Write_8
def l_req_Write_9 : List AOp := [⟨(some 57), .mv (.t 7), none, none, [], none⟩,
  ⟨(some 2), .mv (.k (.str [])), none, none, [], none⟩,
  ⟨(some 3), .mv (.t 57), none, none, [], none⟩]
def ac_req_Write_9 : AC := .reg l_req_Write_9
def ac_req_Write_10 : AC := .seq ac_req_Write_9 .ret
def ac_req_Write_11 : AC := .cond (.t 56) ac_req_Write_10 .skip
def ac_req_Write_12 : AC := .seq ac_req_Write_8 ac_req_Write_11
def l_req_Write_13 : List AOp := [⟨(some 58), .mv (.t 6), none, none, [], none⟩,
  ⟨(some 59), .faddr 4 (.t 1), none, none, [], none⟩,
  ⟨(some 60), .load none (.t 59), none, none, [], none⟩,
  ⟨(some 61), .bin .add (.t 58) (.t 60), none, none, [], none⟩,
  ⟨(some 62), .call false 27 [(.t 61)], none, none, [], none⟩,
  ⟨(some 2), .mv (.t 62), none, none, [], none⟩,
  ⟨(some 3), .mv (.k (.int .i64 0)), none, none, [], none⟩]
def ac_req_Write_13 : AC := .reg l_req_Write_13
def ac_req_Write_14 : AC := .seq ac_req_Write_13 .ret
def ac_req_Write_15 : AC := .seq ac_req_Write_12 ac_req_Write_14
def ac_req_Write_16 : AC := .seq ac_req_Write_7 ac_req_Write_15
def ac_req_Write_17 : AC := .seq ac_req_Write_6 ac_req_Write_16
def ac_req_Write_18 : AC := .seq ac_req_Write_1 ac_req_Write_17
def ac_req_Write_19 : AC := .seq ac_req_Write_0 ac_req_Write_18
def ac_req_Write : AC := ac_req_Write_19
theorem comp_req_Write : compF Try.prog [] (drawR Try.prog [] Try.f12.ntmps) [] 1 Try.f12 = some (ac_req_Write, [.t 2, .t 3]) := by kernel_rfl
def U_req_Write := (And.intro (And.intro (And.intro (And.intro (And.intro @ac_req_Write.eq_1 (@mR _ _ ac_req_Write_0.eq_1)) (And.intro (@mR _ _ ac_req_Write_1.eq_1) (@mR _ _ ac_req_Write_2.eq_1))) (And.intro (And.intro (@mR _ _ ac_req_Write_3.eq_1) (@mU _ _ ac_req_Write_4.eq_1)) (And.intro (@mU _ _ ac_req_Write_5.eq_1) (@mU _ _ ac_req_Write_6.eq_1)))) (And.intro (And.intro (And.intro (@mR _ _ ac_req_Write_7.eq_1) (@mR _ _ ac_req_Write_8.eq_1)) (And.intro (@mR _ _ ac_req_Write_9.eq_1) (@mU _ _ ac_req_Write_10.eq_1))) (And.intro (And.intro (@mU _ _ ac_req_Write_11.eq_1) (@mU _ _ ac_req_Write_12.eq_1)) (@mR _ _ ac_req_Write_13.eq_1)))) (And.intro (And.intro (And.intro (And.intro (@mU _ _ ac_req_Write_14.eq_1) (@mU _ _ ac_req_Write_15.eq_1)) (And.intro (@mU _ _ ac_req_Write_16.eq_1) (@mU _ _ ac_req_Write_17.eq_1))) (And.intro (And.intro (@mU _ _ ac_req_Write_18.eq_1) (@mU _ _ ac_req_Write_19.eq_1)) @l_req_Write_0.eq_1)) (And.intro (And.intro (And.intro @l_req_Write_1.eq_1 @l_req_Write_2.eq_1) (And.intro @l_req_Write_3.eq_1 @l_req_Write_7.eq_1)) (And.intro (And.intro @l_req_Write_8.eq_1 @l_req_Write_9.eq_1) @l_req_Write_13.eq_1))))

/- scoria/scoriaref16.Write -/
def l_ref16_Write_0 : List AOp := [⟨(some 1), .box (.t 0), none, none, [], none⟩,
  ⟨(some 2), .mv (.k (.str [])), none, none, [], none⟩,
  ⟨(some 3), .mv (.k (.int .i64 0)), none, none, [], none⟩]
def ac_ref16_Write_0 : AC := .reg l_ref16_Write_0
def l_ref16_Write_1 : List AOp := [⟨(some 4), .load (some 5) (.t 1), none, none, [], none⟩,
  ⟨(some 5), .call false 28 [(.t 4)], none, none, [], none⟩,
  ⟨(some 6), .un .not (.t 5), none, none, [], none⟩]
def ac_ref16_Write_1 : AC := .reg l_ref16_Write_1
def l_ref16_Write_2 : List AOp := [⟨(some 2), .mv (.k (.str [])), none, none, [], none⟩,
  ⟨(some 3), .mv (.k (.int .i64 1)), none, none, [], none⟩]
def ac_ref16_Write_2 : AC := .reg l_ref16_Write_2
def ac_ref16_Write_3 : AC := .seq ac_ref16_Write_2 .ret
def ac_ref16_Write_4 : AC := .cond (.t 6) ac_ref16_Write_3 .skip
def ac_ref16_Write_5 : AC := .seq ac_ref16_Write_1 ac_ref16_Write_4
def l_ref16_Write_6 : List AOp := [⟨(some 7), .faddr 0 (.t 1), none, none, [], none⟩,
  ⟨(some 8), .load none (.t 7), none, none, [], none⟩,
  ⟨(some 9), .call false 30 [(.t 8), (.k (.int .i64 1))], none, none, [], none⟩,
  ⟨(some 10), .faddr 1 (.t 1), none, none, [], none⟩,
  ⟨(some 11), .load none (.t 10), none, none, [], none⟩,
  ⟨(some 12), .call false 30 [(.t 11), (.k (.int .i64 4))], none, none, [], none⟩,
  ⟨(some 13), .bin .add (.t 9) (.t 12), none, none, [], none⟩,
  ⟨(some 14), .faddr 2 (.t 1), none, none, [], none⟩,
  ⟨(some 15), .load none (.t 14), none, none, [], none⟩,
  ⟨(some 16), .call false 30 [(.t 15), (.k (.int .i64 4))], none, none, [], none⟩,
  ⟨(some 17), .bin .add (.t 13) (.t 16), none, none, [], none⟩,
  ⟨(some 18), .faddr 3 (.t 1), none, none, [], none⟩,
  ⟨(some 19), .load none (.t 18), none, none, [], none⟩,
  ⟨(some 20), .call false 30 [(.t 19), (.k (.int .i64 4))], none, none, [], none⟩,
  ⟨(some 21), .bin .add (.t 17) (.t 20), none, none, [], none⟩,
  ⟨(some 22), .faddr 4 (.t 1), none, none, [], none⟩,
  ⟨(some 23), .load none (.t 22), none, none, [], none⟩,
  ⟨(some 24), .lens (.t 23), none, none, [], none⟩,
  ⟨(some 25), .call false 30 [(.t 24), (.k (.int .i64 2))], none, none, [], none⟩,
  ⟨(some 26), .bin .add (.t 21) (.t 25), none, none, [], none⟩,
  ⟨(some 27), .faddr 4 (.t 1), none, none, [], none⟩,
  ⟨(some 28), .load none (.t 27), none, none, [], none⟩,
  ⟨(some 29), .bin .add (.t 26) (.t 28), none, none, [], none⟩,
  ⟨(some 30), .call false 29 [(.t 29)], none, none, [], none⟩,
  ⟨(some 2), .mv (.t 30), none, none, [], none⟩,
  ⟨(some 3), .mv (.k (.int .i64 0)), none, none, [], none⟩]
def ac_ref16_Write_6 : AC := .dreg 0 l_ref16_Write_6
def ac_ref16_Write_7 : AC := .seq ac_ref16_Write_6 .ret
def ac_ref16_Write_8 : AC := .seq ac_ref16_Write_5 ac_ref16_Write_7
def ac_ref16_Write_9 : AC := .seq ac_ref16_Write_0 ac_ref16_Write_8
def ac_ref16_Write : AC := ac_ref16_Write_9
theorem comp_ref16_Write : compF Try.prog [] (drawR Try.prog [] Try.f13.ntmps) [] 1 Try.f13 = some (ac_ref16_Write, [.t 2, .t 3]) := by kernel_rfl
def U_ref16_Write := (And.intro (And.intro (And.intro (And.intro @ac_ref16_Write.eq_1 (@mR _ _ ac_ref16_Write_0.eq_1)) (And.intro (@mR _ _ ac_ref16_Write_1.eq_1) (@mR _ _ ac_ref16_Write_2.eq_1))) (And.intro (And.intro (@mU _ _ ac_ref16_Write_3.eq_1) (@mU _ _ ac_ref16_Write_4.eq_1)) (And.intro (@mU _ _ ac_ref16_Write_5.eq_1) (@mD _ _ _ ac_ref16_Write_6.eq_1)))) (And.intro (And.intro (And.intro (@mU _ _ ac_ref16_Write_7.eq_1) (@mU _ _ ac_ref16_Write_8.eq_1)) (And.intro (@mU _ _ ac_ref16_Write_9.eq_1) @l_ref16_Write_0.eq_1)) (And.intro (And.intro @l_ref16_Write_1.eq_1 @l_ref16_Write_2.eq_1) @l_ref16_Write_6.eq_1)))

/- scoria/req.Answer -/
def l_req_Answer_0 : List AOp := [⟨(some 1), .box (.t 0), none, none, [], none⟩,
  ⟨(some 2), .mv (.k (.str [])), none, none, [], none⟩,
  ⟨(some 3), .mv (.k (.int .i64 0)), none, none, [], none⟩]
def ac_req_Answer_0 : AC := .reg l_req_Answer_0
def l_req_Answer_1 : List AOp := [⟨(some 10), .faddr 0 (.t 1), none, none, [], none⟩,
  ⟨(some 11), .load none (.t 10), none, none, [], none⟩,
  ⟨(some 12), .bin .lss (.t 11) (.k (.int .i64 0)), none, none, [], none⟩,
  ⟨(some 13), .mv (.t 12), none, none, [], none⟩,
  ⟨(some 14), .faddr 0 (.t 1), (some (13, false)), none, [], none⟩,
  ⟨(some 15), .load none (.t 14), (some (13, false)), none, [], none⟩,
  ⟨(some 16), .bin .gtr (.t 15) (.k (.int .i64 255)), (some (13, false)), none, [], none⟩,
  ⟨(some 17), .pick (.t 13) (.k (.bool true)) (.t 16), none, none, [], none⟩,
  ⟨(some 18), .mv (.t 17), none, none, [], none⟩,
  ⟨(some 19), .faddr 2 (.t 1), (some (18, false)), none, [], none⟩,
  ⟨(some 20), .load none (.t 19), (some (18, false)), none, [], none⟩,
  ⟨(some 21), .faddr 3 (.t 1), (some (18, false)), none, [], none⟩,
  ⟨(some 22), .load none (.t 21), (some (18, false)), none, [], none⟩,
  ⟨(some 23), .blds false [(.int .i64 0)] 2 [(0, (.t 20)), (1, (.t 22))], (some (18, false)), none, [], none⟩,
  ⟨(some 24), .call false 23 [(.t 23)], (some (18, false)), none, [], none⟩,
  ⟨(some 25), .un .not (.t 24), (some (18, false)), none, [], none⟩,
  ⟨(some 26), .pick (.t 18) (.k (.bool true)) (.t 25), none, none, [], none⟩,
  ⟨(some 27), .mv (.t 26), none, none, [], none⟩,
  ⟨(some 28), .faddr 1 (.t 1), (some (27, false)), none, [], none⟩,
  ⟨(some 29), .load none (.t 28), (some (27, false)), none, [], none⟩,
  ⟨(some 30), .lens (.t 29), (some (27, false)), none, [], none⟩,
  ⟨(some 31), .bin .gtr (.t 30) (.k (.int .i64 512)), (some (27, false)), none, [], none⟩,
  ⟨(some 32), .pick (.t 27) (.k (.bool true)) (.t 31), none, none, [], none⟩,
  ⟨(some 33), .mv (.t 32), none, none, [], none⟩,
  ⟨(some 34), .faddr 4 (.t 1), (some (33, false)), none, [], none⟩,
  ⟨(some 35), .load none (.t 34), (some (33, false)), none, [], none⟩,
  ⟨(some 36), .call false 31 [(.t 35)], (some (33, false)), none, [], none⟩,
  ⟨(some 37), .un .not (.t 36), (some (33, false)), none, [], none⟩,
  ⟨(some 38), .pick (.t 33) (.k (.bool true)) (.t 37), none, none, [], none⟩]
def ac_req_Answer_1 : AC := .reg l_req_Answer_1
def l_req_Answer_2 : List AOp := [⟨(some 2), .mv (.k (.str [])), none, none, [], none⟩,
  ⟨(some 3), .mv (.k (.int .i64 1)), none, none, [], none⟩]
def ac_req_Answer_2 : AC := .reg l_req_Answer_2
def ac_req_Answer_3 : AC := .seq ac_req_Answer_2 .ret
def ac_req_Answer_4 : AC := .cond (.t 38) ac_req_Answer_3 .skip
def ac_req_Answer_5 : AC := .seq ac_req_Answer_1 ac_req_Answer_4
def l_req_Answer_6 : List AOp := [⟨(some 40), .faddr 0 (.t 1), none, none, [], none⟩,
  ⟨(some 41), .load none (.t 40), none, none, [], none⟩,
  ⟨(some 42), .faddr 2 (.t 1), none, none, [], none⟩,
  ⟨(some 43), .load none (.t 42), none, none, [], none⟩,
  ⟨(some 44), .faddr 3 (.t 1), none, none, [], none⟩,
  ⟨(some 45), .load none (.t 44), none, none, [], none⟩,
  ⟨(some 46), .faddr 1 (.t 1), none, none, [], none⟩,
  ⟨(some 47), .load none (.t 46), none, none, [], none⟩,
  ⟨(some 48), .lens (.t 47), none, none, [], none⟩,
  ⟨(some 49), .faddr 4 (.t 1), none, none, [], none⟩,
  ⟨(some 50), .load none (.t 49), none, none, [], none⟩,
  ⟨(some 51), .len (.t 50), none, none, [], none⟩,
  ⟨(some 52), .blds false [(.int .i64 0)] 5 [(0, (.t 41)), (1, (.t 43)), (2, (.t 45)), (3, (.t 48)), (4, (.t 51))], none, none, [], none⟩,
  ⟨(some 53), .call false 25 [(.t 52)], none, none, [], none⟩,
  ⟨(some 54), .call false 32 [], none, none, [], none⟩,
  ⟨(some 55), .call false 24 [(.t 53), (.t 54)], none, none, [], none⟩,
  ⟨(some 39), .mv (.t 55), none, none, [], none⟩,
  ⟨(some 56), .ext 0 (.t 39), none, none, [], none⟩,
  ⟨(some 57), .ext 1 (.t 39), none, none, [], none⟩,
  ⟨(some 4), .mv (.t 56), none, none, [], none⟩,
  ⟨(some 5), .mv (.t 57), none, none, [], none⟩]
def ac_req_Answer_6 : AC := .reg l_req_Answer_6
def l_req_Answer_7 : List AOp := [⟨(some 58), .mv (.t 5), none, none, [], none⟩,
  ⟨(some 59), .bin .neq (.t 58) (.k (.int .i64 0)), none, none, [], none⟩]
def ac_req_Answer_7 : AC := .reg l_req_Answer_7
def l_req_Answer_8 : List AOp := [⟨(some 60), .mv (.t 5), none, none, [], none⟩,
  ⟨(some 2), .mv (.k (.str [])), none, none, [], none⟩,
  ⟨(some 3), .mv (.t 60), none, none, [], none⟩]
def ac_req_Answer_8 : AC := .reg l_req_Answer_8
def ac_req_Answer_9 : AC := .seq ac_req_Answer_8 .ret
def ac_req_Answer_10 : AC := .cond (.t 59) ac_req_Answer_9 .skip
def ac_req_Answer_11 : AC := .seq ac_req_Answer_7 ac_req_Answer_10
def l_req_Answer_12 : List AOp := [⟨(some 61), .mv (.t 4), none, none, [], none⟩,
  ⟨(some 62), .faddr 1 (.t 1), none, none, [], none⟩,
  ⟨(some 63), .load none (.t 62), none, none, [], none⟩,
  ⟨(some 64), .bin .add (.t 61) (.t 63), none, none, [], none⟩,
  ⟨(some 4), .mv (.t 64), none, none, [], none⟩]
def ac_req_Answer_12 : AC := .reg l_req_Answer_12
def l_req_Answer_13 : List AOp := [⟨(some 65), .faddr 4 (.t 1), none, none, [], none⟩,
  ⟨(some 66), .load none (.t 65), none, none, [], none⟩,
  ⟨(some 67), .len (.t 66), none, none, [], none⟩,
  ⟨(some 68), .mv (.k (.int .i64 0)), none, none, [], none⟩]
def ac_req_Answer_13 : AC := .reg l_req_Answer_13
def l_req_Answer_14 : List AOp := [⟨(some 69), .bin .lss (.t 68) (.t 67), none, none, [], none⟩]
def ac_req_Answer_14 : AC := .reg l_req_Answer_14
def ac_req_Answer_15 : AC := .cond (.t 69) .skip (.exit 0)
def l_req_Answer_16 : List AOp := [⟨(some 70), .isl 1 (.t 66) (.t 68), none, none, [], none⟩,
  ⟨(some 71), .load none (.t 70), none, none, [], none⟩,
  ⟨(some 7), .mv (.t 71), none, none, [], none⟩]
def ac_req_Answer_16 : AC := .reg l_req_Answer_16
def l_req_Answer_17 : List AOp := [⟨(some 73), .mv (.t 7), none, none, [], none⟩,
  ⟨(some 74), .conv .u64 (.t 73), none, none, [], none⟩,
  ⟨(some 75), .call false 33 [(.t 74), (.k (.int .i64 2))], none, none, [], none⟩,
  ⟨(some 72), .mv (.t 75), none, none, [], none⟩,
  ⟨(some 76), .ext 0 (.t 72), none, none, [], none⟩,
  ⟨(some 77), .ext 1 (.t 72), none, none, [], none⟩,
  ⟨(some 8), .mv (.t 76), none, none, [], none⟩,
  ⟨(some 9), .mv (.t 77), none, none, [], none⟩]
def ac_req_Answer_17 : AC := .reg l_req_Answer_17
def l_req_Answer_18 : List AOp := [⟨(some 78), .mv (.t 9), none, none, [], none⟩,
  ⟨(some 79), .bin .neq (.t 78) (.k (.int .i64 0)), none, none, [], none⟩]
def ac_req_Answer_18 : AC := .reg l_req_Answer_18
def l_req_Answer_19 : List AOp := [⟨(some 80), .mv (.t 9), none, none, [], none⟩,
  ⟨(some 2), .mv (.k (.str [])), none, none, [], none⟩,
  ⟨(some 3), .mv (.t 80), none, none, [], none⟩]
def ac_req_Answer_19 : AC := .reg l_req_Answer_19
def ac_req_Answer_20 : AC := .seq ac_req_Answer_19 .ret
def ac_req_Answer_21 : AC := .cond (.t 79) ac_req_Answer_20 .skip
def ac_req_Answer_22 : AC := .seq ac_req_Answer_18 ac_req_Answer_21
def l_req_Answer_23 : List AOp := [⟨(some 81), .mv (.t 4), none, none, [], none⟩,
  ⟨(some 82), .mv (.t 8), none, none, [], none⟩,
  ⟨(some 83), .bin .add (.t 81) (.t 82), none, none, [], none⟩,
  ⟨(some 4), .mv (.t 83), none, none, [], none⟩]
def ac_req_Answer_23 : AC := .reg l_req_Answer_23
def ac_req_Answer_24 : AC := .seq ac_req_Answer_22 ac_req_Answer_23
def ac_req_Answer_25 : AC := .seq ac_req_Answer_17 ac_req_Answer_24
def ac_req_Answer_26 : AC := .seq ac_req_Answer_16 ac_req_Answer_25
def ac_req_Answer_27 : AC := .block 1 ac_req_Answer_26
def l_req_Answer_28 : List AOp := [⟨(some 84), .bin .add (.t 68) (.k (.int .i64 1)), none, none, [], none⟩,
  ⟨(some 68), .mv (.t 84), none, none, [], none⟩]
def ac_req_Answer_28 : AC := .reg l_req_Answer_28
def ac_req_Answer_29 : AC := .seq ac_req_Answer_27 ac_req_Answer_28
def ac_req_Answer_30 : AC := .seq ac_req_Answer_15 ac_req_Answer_29
def ac_req_Answer_31 : AC := .seq ac_req_Answer_14 ac_req_Answer_30
def ac_req_Answer_32 : AC := .loop [4, 66, 67, 68] 1 ac_req_Answer_31
def ac_req_Answer_33 : AC := .block 0 ac_req_Answer_32
def ac_req_Answer_34 : AC := .seq ac_req_Answer_13 ac_req_Answer_33
def l_req_Answer_35 : List AOp := [⟨(some 85), .mv (.t 4), none, none, [], none⟩,
  ⟨(some 86), .call false 27 [(.t 85)], none, none, [], none⟩,
  ⟨(some 2), .mv (.t 86), none, none, [], none⟩,
  ⟨(some 3), .mv (.k (.int .i64 0)), none, none, [], none⟩]
def ac_req_Answer_35 : AC := .reg l_req_Answer_35
def ac_req_Answer_36 : AC := .seq ac_req_Answer_35 .ret
def ac_req_Answer_37 : AC := .seq ac_req_Answer_34 ac_req_Answer_36
def ac_req_Answer_38 : AC := .seq ac_req_Answer_12 ac_req_Answer_37
def ac_req_Answer_39 : AC := .seq ac_req_Answer_11 ac_req_Answer_38
def ac_req_Answer_40 : AC := .seq ac_req_Answer_6 ac_req_Answer_39
def ac_req_Answer_41 : AC := .seq ac_req_Answer_5 ac_req_Answer_40
def ac_req_Answer_42 : AC := .seq ac_req_Answer_0 ac_req_Answer_41
def ac_req_Answer : AC := ac_req_Answer_42
theorem comp_req_Answer : compF Try.prog [] (drawR Try.prog [] Try.f14.ntmps) [([4, 66, 67, 68], 1)] 1 Try.f14 = some (ac_req_Answer, [.t 2, .t 3]) := by kernel_rfl
def U_req_Answer := (And.intro (And.intro (And.intro (And.intro (And.intro (And.intro @ac_req_Answer.eq_1 (@mR _ _ ac_req_Answer_0.eq_1)) (And.intro (@mR _ _ ac_req_Answer_1.eq_1) (@mR _ _ ac_req_Answer_2.eq_1))) (And.intro (And.intro (@mU _ _ ac_req_Answer_3.eq_1) (@mU _ _ ac_req_Answer_4.eq_1)) (And.intro (@mU _ _ ac_req_Answer_5.eq_1) (@mR _ _ ac_req_Answer_6.eq_1)))) (And.intro (And.intro (And.intro (@mR _ _ ac_req_Answer_7.eq_1) (@mR _ _ ac_req_Answer_8.eq_1)) (And.intro (@mU _ _ ac_req_Answer_9.eq_1) (@mU _ _ ac_req_Answer_10.eq_1))) (And.intro (And.intro (@mU _ _ ac_req_Answer_11.eq_1) (@mR _ _ ac_req_Answer_12.eq_1)) (@mR _ _ ac_req_Answer_13.eq_1)))) (And.intro (And.intro (And.intro (And.intro (@mR _ _ ac_req_Answer_14.eq_1) (@mU _ _ ac_req_Answer_15.eq_1)) (And.intro (@mR _ _ ac_req_Answer_16.eq_1) (@mR _ _ ac_req_Answer_17.eq_1))) (And.intro (And.intro (@mR _ _ ac_req_Answer_18.eq_1) (@mR _ _ ac_req_Answer_19.eq_1)) (And.intro (@mU _ _ ac_req_Answer_20.eq_1) (@mU _ _ ac_req_Answer_21.eq_1)))) (And.intro (And.intro (And.intro (@mU _ _ ac_req_Answer_22.eq_1) (@mR _ _ ac_req_Answer_23.eq_1)) (And.intro (@mU _ _ ac_req_Answer_24.eq_1) (@mU _ _ ac_req_Answer_25.eq_1))) (And.intro (And.intro (@mU _ _ ac_req_Answer_26.eq_1) (@mU _ _ ac_req_Answer_27.eq_1)) (@mR _ _ ac_req_Answer_28.eq_1))))) (And.intro (And.intro (And.intro (And.intro (And.intro (@mU _ _ ac_req_Answer_29.eq_1) (@mU _ _ ac_req_Answer_30.eq_1)) (And.intro (@mU _ _ ac_req_Answer_31.eq_1) (@mU _ _ ac_req_Answer_32.eq_1))) (And.intro (And.intro (@mU _ _ ac_req_Answer_33.eq_1) (@mU _ _ ac_req_Answer_34.eq_1)) (And.intro (@mR _ _ ac_req_Answer_35.eq_1) (@mU _ _ ac_req_Answer_36.eq_1)))) (And.intro (And.intro (And.intro (@mU _ _ ac_req_Answer_37.eq_1) (@mU _ _ ac_req_Answer_38.eq_1)) (And.intro (@mU _ _ ac_req_Answer_39.eq_1) (@mU _ _ ac_req_Answer_40.eq_1))) (And.intro (And.intro (@mU _ _ ac_req_Answer_41.eq_1) (@mU _ _ ac_req_Answer_42.eq_1)) @l_req_Answer_0.eq_1))) (And.intro (And.intro (And.intro (And.intro @l_req_Answer_1.eq_1 @l_req_Answer_2.eq_1) (And.intro @l_req_Answer_6.eq_1 @l_req_Answer_7.eq_1)) (And.intro (And.intro @l_req_Answer_8.eq_1 @l_req_Answer_12.eq_1) (And.intro @l_req_Answer_13.eq_1 @l_req_Answer_14.eq_1))) (And.intro (And.intro (And.intro @l_req_Answer_16.eq_1 @l_req_Answer_17.eq_1) (And.intro @l_req_Answer_18.eq_1 @l_req_Answer_19.eq_1)) (And.intro (And.intro @l_req_Answer_23.eq_1 @l_req_Answer_28.eq_1) @l_req_Answer_35.eq_1)))))

/- scoria/scoriaref16.Answer -/
def l_ref16_Answer_0 : List AOp := [⟨(some 1), .box (.t 0), none, none, [], none⟩,
  ⟨(some 2), .mv (.k (.str [])), none, none, [], none⟩,
  ⟨(some 3), .mv (.k (.int .i64 0)), none, none, [], none⟩]
def ac_ref16_Answer_0 : AC := .reg l_ref16_Answer_0
def l_ref16_Answer_1 : List AOp := [⟨(some 6), .load (some 5) (.t 1), none, none, [], none⟩,
  ⟨(some 7), .call false 34 [(.t 6)], none, none, [], none⟩,
  ⟨(some 8), .un .not (.t 7), none, none, [], none⟩]
def ac_ref16_Answer_1 : AC := .reg l_ref16_Answer_1
def l_ref16_Answer_2 : List AOp := [⟨(some 2), .mv (.k (.str [])), none, none, [], none⟩,
  ⟨(some 3), .mv (.k (.int .i64 1)), none, none, [], none⟩]
def ac_ref16_Answer_2 : AC := .reg l_ref16_Answer_2
def ac_ref16_Answer_3 : AC := .seq ac_ref16_Answer_2 .ret
def ac_ref16_Answer_4 : AC := .cond (.t 8) ac_ref16_Answer_3 .skip
def ac_ref16_Answer_5 : AC := .seq ac_ref16_Answer_1 ac_ref16_Answer_4
def l_ref16_Answer_6 : List AOp := [⟨(some 9), .faddr 0 (.t 1), none, none, [], none⟩,
  ⟨(some 10), .load none (.t 9), none, none, [], none⟩,
  ⟨(some 11), .call false 30 [(.t 10), (.k (.int .i64 1))], none, none, [], none⟩,
  ⟨(some 12), .faddr 2 (.t 1), none, none, [], none⟩,
  ⟨(some 13), .load none (.t 12), none, none, [], none⟩,
  ⟨(some 14), .call false 30 [(.t 13), (.k (.int .i64 4))], none, none, [], none⟩,
  ⟨(some 15), .bin .add (.t 11) (.t 14), none, none, [], none⟩,
  ⟨(some 16), .faddr 3 (.t 1), none, none, [], none⟩,
  ⟨(some 17), .load none (.t 16), none, none, [], none⟩,
  ⟨(some 18), .call false 30 [(.t 17), (.k (.int .i64 4))], none, none, [], none⟩,
  ⟨(some 19), .bin .add (.t 15) (.t 18), none, none, [], none⟩,
  ⟨(some 20), .faddr 1 (.t 1), none, none, [], none⟩,
  ⟨(some 21), .load none (.t 20), none, none, [], none⟩,
  ⟨(some 22), .lens (.t 21), none, none, [], none⟩,
  ⟨(some 23), .call false 30 [(.t 22), (.k (.int .i64 2))], none, none, [], none⟩,
  ⟨(some 24), .bin .add (.t 19) (.t 23), none, none, [], none⟩,
  ⟨(some 25), .faddr 4 (.t 1), none, none, [], none⟩,
  ⟨(some 26), .load none (.t 25), none, none, [], none⟩,
  ⟨(some 27), .len (.t 26), none, none, [], none⟩,
  ⟨(some 28), .call false 30 [(.t 27), (.k (.int .i64 1))], none, none, [], none⟩,
  ⟨(some 29), .bin .add (.t 24) (.t 28), none, none, [], none⟩,
  ⟨(some 30), .faddr 1 (.t 1), none, none, [], none⟩,
  ⟨(some 31), .load none (.t 30), none, none, [], none⟩,
  ⟨(some 32), .bin .add (.t 29) (.t 31), none, none, [], none⟩,
  ⟨(some 4), .mv (.t 32), none, none, [], none⟩]
def ac_ref16_Answer_6 : AC := .dreg 0 l_ref16_Answer_6
def l_ref16_Answer_7 : List AOp := [⟨(some 5), .mv (.k (.int .i64 0)), none, none, [], none⟩]
def ac_ref16_Answer_7 : AC := .reg l_ref16_Answer_7
def l_ref16_Answer_8 : List AOp := [⟨(some 33), .mv (.t 5), none, none, [], none⟩,
  ⟨(some 34), .faddr 4 (.t 1), none, none, [], none⟩,
  ⟨(some 35), .load none (.t 34), none, none, [], none⟩,
  ⟨(some 36), .len (.t 35), none, none, [], none⟩,
  ⟨(some 37), .bin .lss (.t 33) (.t 36), none, none, [], none⟩]
def ac_ref16_Answer_8 : AC := .reg l_ref16_Answer_8
def ac_ref16_Answer_9 : AC := .cond (.t 37) .skip (.exit 0)
def ac_ref16_Answer_10 : AC := .seq ac_ref16_Answer_8 ac_ref16_Answer_9
def l_ref16_Answer_11 : List AOp := [⟨(some 40), .mv (.t 4), none, none, [], none⟩,
  ⟨(some 41), .faddr 4 (.t 1), none, none, [], none⟩,
  ⟨(some 42), .load none (.t 41), none, none, [], none⟩,
  ⟨(some 43), .mv (.t 5), none, none, [], none⟩,
  ⟨(some 44), .isl 1 (.t 42) (.t 43), none, none, [], none⟩,
  ⟨(some 45), .load none (.t 44), none, none, [], none⟩,
  ⟨(some 46), .call false 30 [(.t 45), (.k (.int .i64 2))], none, none, [], none⟩,
  ⟨(some 47), .bin .add (.t 40) (.t 46), none, none, [], none⟩,
  ⟨(some 4), .mv (.t 47), none, none, [], none⟩]
def ac_ref16_Answer_11 : AC := .reg l_ref16_Answer_11
def ac_ref16_Answer_12 : AC := .block 1 ac_ref16_Answer_11
def l_ref16_Answer_13 : List AOp := [⟨(some 38), .mv (.t 5), none, none, [], none⟩,
  ⟨(some 39), .bin .add (.t 38) (.k (.int .i64 1)), none, none, [], none⟩,
  ⟨(some 5), .mv (.t 39), none, none, [], none⟩]
def ac_ref16_Answer_13 : AC := .reg l_ref16_Answer_13
def ac_ref16_Answer_14 : AC := .seq ac_ref16_Answer_12 ac_ref16_Answer_13
def ac_ref16_Answer_15 : AC := .seq ac_ref16_Answer_10 ac_ref16_Answer_14
def ac_ref16_Answer_16 : AC := .loop [1, 4, 5] 1 ac_ref16_Answer_15
def ac_ref16_Answer_17 : AC := .block 0 ac_ref16_Answer_16
def ac_ref16_Answer_18 : AC := .seq ac_ref16_Answer_7 ac_ref16_Answer_17
def l_ref16_Answer_19 : List AOp := [⟨(some 48), .mv (.t 4), none, none, [], none⟩,
  ⟨(some 49), .call false 29 [(.t 48)], none, none, [], none⟩,
  ⟨(some 2), .mv (.t 49), none, none, [], none⟩,
  ⟨(some 3), .mv (.k (.int .i64 0)), none, none, [], none⟩]
def ac_ref16_Answer_19 : AC := .reg l_ref16_Answer_19
def ac_ref16_Answer_20 : AC := .seq ac_ref16_Answer_19 .ret
def ac_ref16_Answer_21 : AC := .seq ac_ref16_Answer_18 ac_ref16_Answer_20
def ac_ref16_Answer_22 : AC := .seq ac_ref16_Answer_6 ac_ref16_Answer_21
def ac_ref16_Answer_23 : AC := .seq ac_ref16_Answer_5 ac_ref16_Answer_22
def ac_ref16_Answer_24 : AC := .seq ac_ref16_Answer_0 ac_ref16_Answer_23
def ac_ref16_Answer : AC := ac_ref16_Answer_24
theorem comp_ref16_Answer : compF Try.prog [] (drawR Try.prog [] Try.f15.ntmps) [([1, 4, 5], 1)] 1 Try.f15 = some (ac_ref16_Answer, [.t 2, .t 3]) := by kernel_rfl
def U_ref16_Answer := (And.intro (And.intro (And.intro (And.intro (And.intro (And.intro @ac_ref16_Answer.eq_1 (@mR _ _ ac_ref16_Answer_0.eq_1)) (@mR _ _ ac_ref16_Answer_1.eq_1)) (And.intro (@mR _ _ ac_ref16_Answer_2.eq_1) (@mU _ _ ac_ref16_Answer_3.eq_1))) (And.intro (And.intro (@mU _ _ ac_ref16_Answer_4.eq_1) (@mU _ _ ac_ref16_Answer_5.eq_1)) (And.intro (@mD _ _ _ ac_ref16_Answer_6.eq_1) (@mR _ _ ac_ref16_Answer_7.eq_1)))) (And.intro (And.intro (And.intro (And.intro (@mR _ _ ac_ref16_Answer_8.eq_1) (@mU _ _ ac_ref16_Answer_9.eq_1)) (@mU _ _ ac_ref16_Answer_10.eq_1)) (And.intro (@mR _ _ ac_ref16_Answer_11.eq_1) (@mU _ _ ac_ref16_Answer_12.eq_1))) (And.intro (And.intro (@mR _ _ ac_ref16_Answer_13.eq_1) (@mU _ _ ac_ref16_Answer_14.eq_1)) (And.intro (@mU _ _ ac_ref16_Answer_15.eq_1) (@mU _ _ ac_ref16_Answer_16.eq_1))))) (And.intro (And.intro (And.intro (And.intro (And.intro (@mU _ _ ac_ref16_Answer_17.eq_1) (@mU _ _ ac_ref16_Answer_18.eq_1)) (@mR _ _ ac_ref16_Answer_19.eq_1)) (And.intro (@mU _ _ ac_ref16_Answer_20.eq_1) (@mU _ _ ac_ref16_Answer_21.eq_1))) (And.intro (And.intro (@mU _ _ ac_ref16_Answer_22.eq_1) (@mU _ _ ac_ref16_Answer_23.eq_1)) (And.intro (@mU _ _ ac_ref16_Answer_24.eq_1) @l_ref16_Answer_0.eq_1))) (And.intro (And.intro (And.intro @l_ref16_Answer_1.eq_1 @l_ref16_Answer_2.eq_1) (And.intro @l_ref16_Answer_6.eq_1 @l_ref16_Answer_7.eq_1)) (And.intro (And.intro @l_ref16_Answer_8.eq_1 @l_ref16_Answer_11.eq_1) (And.intro @l_ref16_Answer_13.eq_1 @l_ref16_Answer_19.eq_1)))))

/- scoria/req.Read -/
def l_req_Read_0 : List AOp := [⟨(some 2), .alloc [(.int .i64 0), (.int .i64 0), (.int .i64 0), (.int .i64 0), (.str [])], none, none, [], none⟩,
  ⟨(some 3), .mv (.k (.int .i64 0)), none, none, [], none⟩]
def ac_req_Read_0 : AC := .reg l_req_Read_0
def l_req_Read_1 : List AOp := [⟨(some 12), .mv (.t 0), none, none, [], none⟩,
  ⟨(some 13), .call false 35 [(.t 12)], none, none, [], none⟩,
  ⟨(some 11), .mv (.t 13), none, none, [], none⟩,
  ⟨(some 14), .ext 0 (.t 11), none, none, [], none⟩,
  ⟨(some 15), .ext 1 (.t 11), none, none, [], none⟩,
  ⟨(some 4), .mv (.t 14), none, none, [], none⟩,
  ⟨(some 5), .mv (.t 15), none, none, [], none⟩]
def ac_req_Read_1 : AC := .reg l_req_Read_1
def l_req_Read_2 : List AOp := [⟨(some 16), .mv (.t 5), none, none, [], none⟩,
  ⟨(some 17), .bin .neq (.t 16) (.k (.int .i64 0)), none, none, [], none⟩]
def ac_req_Read_2 : AC := .reg l_req_Read_2
def l_req_Read_3 : List AOp := [⟨(some 18), .build [(.int .i64 0), (.int .i64 0), (.int .i64 0), (.int .i64 0), (.str [])] [], none, none, [], none⟩,
  ⟨(some 19), .mv (.t 5), none, none, [], none⟩,
  ⟨none, .store 5 (.t 2) (.t 18), none, none, [], none⟩,
  ⟨(some 3), .mv (.t 19), none, none, [], none⟩]
def ac_req_Read_3 : AC := .reg l_req_Read_3
def ac_req_Read_4 : AC := .seq ac_req_Read_3 .ret
def ac_req_Read_5 : AC := .cond (.t 17) ac_req_Read_4 .skip
def ac_req_Read_6 : AC := .seq ac_req_Read_2 ac_req_Read_5
def l_req_Read_7 : List AOp := [⟨(some 21), .mv (.t 4), none, none, [], none⟩,
  ⟨(some 22), .call false 26 [], none, none, [], none⟩,
  ⟨(some 23), .call false 36 [(.t 21), (.t 22)], none, none, [], none⟩,
  ⟨(some 20), .mv (.t 23), none, none, [], none⟩,
  ⟨(some 24), .ext 0 (.t 20), none, none, [], none⟩,
  ⟨(some 25), .ext 1 (.t 20), none, none, [], none⟩,
  ⟨(some 26), .ext 2 (.t 20), none, none, [], none⟩,
  ⟨(some 6), .mv (.t 24), none, none, [], none⟩,
  ⟨(some 7), .mv (.t 25), none, none, [], none⟩,
  ⟨(some 5), .mv (.t 26), none, none, [], none⟩]
def ac_req_Read_7 : AC := .reg l_req_Read_7
def l_req_Read_8 : List AOp := [⟨(some 27), .mv (.t 5), none, none, [], none⟩,
  ⟨(some 28), .bin .neq (.t 27) (.k (.int .i64 0)), none, none, [], none⟩]
def ac_req_Read_8 : AC := .reg l_req_Read_8
def l_req_Read_9 : List AOp := [⟨(some 29), .build [(.int .i64 0), (.int .i64 0), (.int .i64 0), (.int .i64 0), (.str [])] [], none, none, [], none⟩,
  ⟨none, .store 5 (.t 2) (.t 29), none, none, [], none⟩,
  ⟨(some 3), .mv (.k (.int .i64 3)), none, none, [], none⟩]
def ac_req_Read_9 : AC := .reg l_req_Read_9
def ac_req_Read_10 : AC := .seq ac_req_Read_9 .ret
def ac_req_Read_11 : AC := .cond (.t 28) ac_req_Read_10 .skip
def ac_req_Read_12 : AC := .seq ac_req_Read_8 ac_req_Read_11
def l_req_Read_13 : List AOp := [⟨(some 30), .mv (.t 6), none, none, [], none⟩,
  ⟨(some 31), .isl 1 (.t 30) (.k (.int .i64 0)), none, none, [0], none⟩,
  ⟨(some 32), .load none (.t 31), none, none, [0], none⟩,
  ⟨(some 33), .conv .i64 (.t 32), none, none, [], none⟩,
  ⟨(some 34), .mv (.t 6), none, none, [], none⟩,
  ⟨(some 35), .isl 1 (.t 34) (.k (.int .i64 1)), none, none, [0], none⟩,
  ⟨(some 36), .load none (.t 35), none, none, [0], none⟩,
  ⟨(some 37), .conv .i64 (.t 36), none, none, [], none⟩,
  ⟨(some 38), .mv (.t 6), none, none, [], none⟩,
  ⟨(some 39), .isl 1 (.t 38) (.k (.int .i64 2)), none, none, [0], none⟩,
  ⟨(some 40), .load none (.t 39), none, none, [0], none⟩,
  ⟨(some 41), .conv .i64 (.t 40), none, none, [], none⟩,
  ⟨(some 42), .mv (.t 6), none, none, [], none⟩,
  ⟨(some 43), .isl 1 (.t 42) (.k (.int .i64 3)), none, none, [0], none⟩,
  ⟨(some 44), .load none (.t 43), none, none, [0], none⟩,
  ⟨(some 45), .conv .i64 (.t 44), none, none, [], none⟩,
  ⟨(some 46), .mv (.t 7), none, none, [], none⟩,
  ⟨(some 47), .build [(.int .i64 0), (.int .i64 0), (.int .i64 0), (.int .i64 0), (.str [])] [(0, 1, (.t 33)), (1, 1, (.t 37)), (2, 1, (.t 41)), (3, 1, (.t 45)), (4, 1, (.t 46))], none, none, [], none⟩,
  ⟨(some 8), .alloc [(.int .i64 0), (.int .i64 0), (.int .i64 0), (.int .i64 0), (.str [])], none, (some 0), [], none⟩,
  ⟨none, .store 5 (.t 8) (.t 47), none, none, [], none⟩]
def ac_req_Read_13 : AC := .dreg 1 l_req_Read_13
def l_req_Read_14 : List AOp := [⟨(some 49), .load (some 5) (.t 8), none, none, [], none⟩,
  ⟨(some 50), .call false 12 [(.t 49)], none, none, [], none⟩,
  ⟨(some 48), .mv (.t 50), none, none, [], none⟩,
  ⟨(some 51), .ext 0 (.t 48), none, none, [], none⟩,
  ⟨(some 52), .ext 1 (.t 48), none, none, [], none⟩,
  ⟨(some 9), .mv (.t 51), none, none, [], none⟩,
  ⟨(some 10), .mv (.t 52), none, none, [], none⟩]
def ac_req_Read_14 : AC := .reg l_req_Read_14
def l_req_Read_15 : List AOp := [⟨(some 53), .mv (.t 10), none, none, [], none⟩,
  ⟨(some 54), .bin .neq (.t 53) (.k (.int .i64 0)), none, none, [], none⟩,
  ⟨(some 55), .mv (.t 54), none, none, [], none⟩,
  ⟨(some 56), .mv (.t 9), (some (55, false)), none, [], none⟩,
  ⟨(some 57), .mv (.t 0), (some (55, false)), none, [], none⟩,
  ⟨(some 58), .bin .neq (.t 56) (.t 57), (some (55, false)), none, [], none⟩,
  ⟨(some 59), .pick (.t 55) (.k (.bool true)) (.t 58), none, none, [], none⟩]
def ac_req_Read_15 : AC := .reg l_req_Read_15
def l_req_Read_16 : List AOp := [⟨(some 60), .build [(.int .i64 0), (.int .i64 0), (.int .i64 0), (.int .i64 0), (.str [])] [], none, none, [], none⟩,
  ⟨none, .store 5 (.t 2) (.t 60), none, none, [], none⟩,
  ⟨(some 3), .mv (.k (.int .i64 3)), none, none, [], none⟩]
def ac_req_Read_16 : AC := .reg l_req_Read_16
def ac_req_Read_17 : AC := .seq ac_req_Read_16 .ret
def ac_req_Read_18 : AC := .cond (.t 59) ac_req_Read_17 .skip
def ac_req_Read_19 : AC := .seq ac_req_Read_15 ac_req_Read_18
def ac_req_Read_20 : AC := .seq ac_req_Read_14 ac_req_Read_19
def l_req_Read_21 : List AOp := [⟨(some 61), .load (some 5) (.t 8), none, none, [], none⟩,
  ⟨none, .store 5 (.t 2) (.t 61), none, none, [], none⟩,
  ⟨(some 3), .mv (.k (.int .i64 0)), none, none, [], none⟩]
def ac_req_Read_21 : AC := .reg l_req_Read_21
def ac_req_Read_22 : AC := .seq ac_req_Read_21 .ret
def ac_req_Read_23 : AC := .seq ac_req_Read_20 ac_req_Read_22
def ac_req_Read_24 : AC := .seq ac_req_Read_13 ac_req_Read_23
def ac_req_Read_25 : AC := .seq ac_req_Read_12 ac_req_Read_24
def ac_req_Read_26 : AC := .seq ac_req_Read_7 ac_req_Read_25
def ac_req_Read_27 : AC := .seq ac_req_Read_6 ac_req_Read_26
def ac_req_Read_28 : AC := .seq ac_req_Read_1 ac_req_Read_27
def ac_req_Read_29 : AC := .seq ac_req_Read_0 ac_req_Read_28
def ac_req_Read : AC := ac_req_Read_29
theorem comp_req_Read : compF Try.prog [] (drawR Try.prog [] Try.f17.ntmps) [] 1 Try.f17 = some (ac_req_Read, [.c 2 (some 5), .t 3]) := by kernel_rfl
def U_req_Read := (And.intro (And.intro (And.intro (And.intro (And.intro (And.intro @ac_req_Read.eq_1 (@mR _ _ ac_req_Read_0.eq_1)) (@mR _ _ ac_req_Read_1.eq_1)) (And.intro (And.intro (@mR _ _ ac_req_Read_2.eq_1) (@mR _ _ ac_req_Read_3.eq_1)) (@mU _ _ ac_req_Read_4.eq_1))) (And.intro (And.intro (And.intro (@mU _ _ ac_req_Read_5.eq_1) (@mU _ _ ac_req_Read_6.eq_1)) (@mR _ _ ac_req_Read_7.eq_1)) (And.intro (@mR _ _ ac_req_Read_8.eq_1) (@mR _ _ ac_req_Read_9.eq_1)))) (And.intro (And.intro (And.intro (And.intro (@mU _ _ ac_req_Read_10.eq_1) (@mU _ _ ac_req_Read_11.eq_1)) (@mU _ _ ac_req_Read_12.eq_1)) (And.intro (And.intro (@mD _ _ _ ac_req_Read_13.eq_1) (@mR _ _ ac_req_Read_14.eq_1)) (@mR _ _ ac_req_Read_15.eq_1))) (And.intro (And.intro (And.intro (@mR _ _ ac_req_Read_16.eq_1) (@mU _ _ ac_req_Read_17.eq_1)) (@mU _ _ ac_req_Read_18.eq_1)) (And.intro (@mU _ _ ac_req_Read_19.eq_1) (@mU _ _ ac_req_Read_20.eq_1))))) (And.intro (And.intro (And.intro (And.intro (And.intro (@mR _ _ ac_req_Read_21.eq_1) (@mU _ _ ac_req_Read_22.eq_1)) (@mU _ _ ac_req_Read_23.eq_1)) (And.intro (And.intro (@mU _ _ ac_req_Read_24.eq_1) (@mU _ _ ac_req_Read_25.eq_1)) (@mU _ _ ac_req_Read_26.eq_1))) (And.intro (And.intro (And.intro (@mU _ _ ac_req_Read_27.eq_1) (@mU _ _ ac_req_Read_28.eq_1)) (@mU _ _ ac_req_Read_29.eq_1)) (And.intro @l_req_Read_0.eq_1 @l_req_Read_1.eq_1))) (And.intro (And.intro (And.intro (And.intro @l_req_Read_2.eq_1 @l_req_Read_3.eq_1) @l_req_Read_7.eq_1) (And.intro @l_req_Read_8.eq_1 @l_req_Read_9.eq_1)) (And.intro (And.intro (And.intro @l_req_Read_13.eq_1 @l_req_Read_14.eq_1) @l_req_Read_15.eq_1) (And.intro @l_req_Read_16.eq_1 @l_req_Read_21.eq_1)))))

/- scoria/scoriaref16.Read -/
def l_ref16_Read_0 : List AOp := [⟨(some 2), .alloc [(.int .i64 0), (.int .i64 0), (.int .i64 0), (.int .i64 0), (.str [])], none, none, [], none⟩,
  ⟨(some 3), .mv (.k (.int .i64 0)), none, none, [], none⟩]
def ac_ref16_Read_0 : AC := .reg l_ref16_Read_0
def l_ref16_Read_1 : List AOp := [⟨(some 10), .mv (.t 0), none, none, [], none⟩,
  ⟨(some 11), .call false 37 [(.t 10)], none, none, [], none⟩,
  ⟨(some 9), .mv (.t 11), none, none, [], none⟩,
  ⟨(some 12), .ext 0 (.t 9), none, none, [], none⟩,
  ⟨(some 13), .ext 1 (.t 9), none, none, [], none⟩,
  ⟨(some 4), .mv (.t 12), none, none, [], none⟩,
  ⟨(some 5), .mv (.t 13), none, none, [], none⟩]
def ac_ref16_Read_1 : AC := .reg l_ref16_Read_1
def l_ref16_Read_2 : List AOp := [⟨(some 14), .mv (.t 5), none, none, [], none⟩,
  ⟨(some 15), .bin .neq (.t 14) (.k (.int .i64 0)), none, none, [], none⟩]
def ac_ref16_Read_2 : AC := .reg l_ref16_Read_2
def l_ref16_Read_3 : List AOp := [⟨(some 16), .build [(.int .i64 0), (.int .i64 0), (.int .i64 0), (.int .i64 0), (.str [])] [], none, none, [], none⟩,
  ⟨(some 17), .mv (.t 5), none, none, [], none⟩,
  ⟨none, .store 5 (.t 2) (.t 16), none, none, [], none⟩,
  ⟨(some 3), .mv (.t 17), none, none, [], none⟩]
def ac_ref16_Read_3 : AC := .reg l_ref16_Read_3
def ac_ref16_Read_4 : AC := .seq ac_ref16_Read_3 .ret
def ac_ref16_Read_5 : AC := .cond (.t 15) ac_ref16_Read_4 .skip
def ac_ref16_Read_6 : AC := .seq ac_ref16_Read_2 ac_ref16_Read_5
def l_ref16_Read_7 : List AOp := [⟨(some 18), .mv (.t 4), none, none, [], none⟩,
  ⟨(some 19), .lens (.t 18), none, none, [], none⟩,
  ⟨(some 20), .bin .lss (.t 19) (.k (.int .i64 15)), none, none, [], none⟩]
def ac_ref16_Read_7 : AC := .reg l_ref16_Read_7
def l_ref16_Read_8 : List AOp := [⟨(some 21), .build [(.int .i64 0), (.int .i64 0), (.int .i64 0), (.int .i64 0), (.str [])] [], none, none, [], none⟩,
  ⟨none, .store 5 (.t 2) (.t 21), none, none, [], none⟩,
  ⟨(some 3), .mv (.k (.int .i64 3)), none, none, [], none⟩]
def ac_ref16_Read_8 : AC := .reg l_ref16_Read_8
def ac_ref16_Read_9 : AC := .seq ac_ref16_Read_8 .ret
def ac_ref16_Read_10 : AC := .cond (.t 20) ac_ref16_Read_9 .skip
def ac_ref16_Read_11 : AC := .seq ac_ref16_Read_7 ac_ref16_Read_10
def l_ref16_Read_12 : List AOp := [⟨(some 22), .mv (.t 4), none, none, [], none⟩,
  ⟨(some 23), .call false 38 [(.t 22), (.k (.int .i64 0)), (.k (.int .i64 1))], none, none, [0], none⟩,
  ⟨(some 24), .mv (.t 4), none, none, [], none⟩,
  ⟨(some 25), .call false 38 [(.t 24), (.k (.int .i64 1)), (.k (.int .i64 4))], none, none, [0], none⟩,
  ⟨(some 26), .mv (.t 4), none, none, [], none⟩,
  ⟨(some 27), .call false 38 [(.t 26), (.k (.int .i64 5)), (.k (.int .i64 4))], none, none, [0], none⟩,
  ⟨(some 28), .mv (.t 4), none, none, [], none⟩,
  ⟨(some 29), .call false 38 [(.t 28), (.k (.int .i64 9)), (.k (.int .i64 4))], none, none, [0], none⟩,
  ⟨(some 30), .mv (.t 4), none, none, [], none⟩,
  ⟨(some 31), .sstr (.t 30) (some (.k (.int .i64 15))) none, none, none, [], none⟩,
  ⟨(some 32), .build [(.int .i64 0), (.int .i64 0), (.int .i64 0), (.int .i64 0), (.str [])] [(0, 1, (.t 23)), (1, 1, (.t 25)), (2, 1, (.t 27)), (3, 1, (.t 29)), (4, 1, (.t 31))], none, none, [], none⟩,
  ⟨(some 6), .alloc [(.int .i64 0), (.int .i64 0), (.int .i64 0), (.int .i64 0), (.str [])], none, (some 0), [], none⟩,
  ⟨none, .store 5 (.t 6) (.t 32), none, none, [], none⟩]
def ac_ref16_Read_12 : AC := .dreg 1 l_ref16_Read_12
def l_ref16_Read_13 : List AOp := [⟨(some 34), .load (some 5) (.t 6), none, none, [], none⟩,
  ⟨(some 35), .call false 13 [(.t 34)], none, none, [], none⟩,
  ⟨(some 33), .mv (.t 35), none, none, [], none⟩,
  ⟨(some 36), .ext 0 (.t 33), none, none, [], none⟩,
  ⟨(some 37), .ext 1 (.t 33), none, none, [], none⟩,
  ⟨(some 7), .mv (.t 36), none, none, [], none⟩,
  ⟨(some 8), .mv (.t 37), none, none, [], none⟩]
def ac_ref16_Read_13 : AC := .reg l_ref16_Read_13
def l_ref16_Read_14 : List AOp := [⟨(some 38), .mv (.t 8), none, none, [], none⟩,
  ⟨(some 39), .bin .neq (.t 38) (.k (.int .i64 0)), none, none, [], none⟩,
  ⟨(some 40), .mv (.t 39), none, none, [], none⟩,
  ⟨(some 41), .mv (.t 7), (some (40, false)), none, [], none⟩,
  ⟨(some 42), .mv (.t 0), (some (40, false)), none, [], none⟩,
  ⟨(some 43), .bin .neq (.t 41) (.t 42), (some (40, false)), none, [], none⟩,
  ⟨(some 44), .pick (.t 40) (.k (.bool true)) (.t 43), none, none, [], none⟩]
def ac_ref16_Read_14 : AC := .reg l_ref16_Read_14
def l_ref16_Read_15 : List AOp := [⟨(some 45), .build [(.int .i64 0), (.int .i64 0), (.int .i64 0), (.int .i64 0), (.str [])] [], none, none, [], none⟩,
  ⟨none, .store 5 (.t 2) (.t 45), none, none, [], none⟩,
  ⟨(some 3), .mv (.k (.int .i64 3)), none, none, [], none⟩]
def ac_ref16_Read_15 : AC := .reg l_ref16_Read_15
def ac_ref16_Read_16 : AC := .seq ac_ref16_Read_15 .ret
def ac_ref16_Read_17 : AC := .cond (.t 44) ac_ref16_Read_16 .skip
def ac_ref16_Read_18 : AC := .seq ac_ref16_Read_14 ac_ref16_Read_17
def l_ref16_Read_19 : List AOp := [⟨(some 46), .load (some 5) (.t 6), none, none, [], none⟩,
  ⟨none, .store 5 (.t 2) (.t 46), none, none, [], none⟩,
  ⟨(some 3), .mv (.k (.int .i64 0)), none, none, [], none⟩]
def ac_ref16_Read_19 : AC := .reg l_ref16_Read_19
def ac_ref16_Read_20 : AC := .seq ac_ref16_Read_19 .ret
def ac_ref16_Read_21 : AC := .seq ac_ref16_Read_18 ac_ref16_Read_20
def ac_ref16_Read_22 : AC := .seq ac_ref16_Read_13 ac_ref16_Read_21
def ac_ref16_Read_23 : AC := .seq ac_ref16_Read_12 ac_ref16_Read_22
def ac_ref16_Read_24 : AC := .seq ac_ref16_Read_11 ac_ref16_Read_23
def ac_ref16_Read_25 : AC := .seq ac_ref16_Read_6 ac_ref16_Read_24
def ac_ref16_Read_26 : AC := .seq ac_ref16_Read_1 ac_ref16_Read_25
def ac_ref16_Read_27 : AC := .seq ac_ref16_Read_0 ac_ref16_Read_26
def ac_ref16_Read : AC := ac_ref16_Read_27
theorem comp_ref16_Read : compF Try.prog [] (drawR Try.prog [] Try.f18.ntmps) [] 1 Try.f18 = some (ac_ref16_Read, [.c 2 (some 5), .t 3]) := by kernel_rfl
def U_ref16_Read := (And.intro (And.intro (And.intro (And.intro (And.intro (And.intro @ac_ref16_Read.eq_1 (@mR _ _ ac_ref16_Read_0.eq_1)) (@mR _ _ ac_ref16_Read_1.eq_1)) (And.intro (@mR _ _ ac_ref16_Read_2.eq_1) (@mR _ _ ac_ref16_Read_3.eq_1))) (And.intro (And.intro (And.intro (@mU _ _ ac_ref16_Read_4.eq_1) (@mU _ _ ac_ref16_Read_5.eq_1)) (@mU _ _ ac_ref16_Read_6.eq_1)) (And.intro (@mR _ _ ac_ref16_Read_7.eq_1) (@mR _ _ ac_ref16_Read_8.eq_1)))) (And.intro (And.intro (And.intro (And.intro (@mU _ _ ac_ref16_Read_9.eq_1) (@mU _ _ ac_ref16_Read_10.eq_1)) (@mU _ _ ac_ref16_Read_11.eq_1)) (And.intro (@mD _ _ _ ac_ref16_Read_12.eq_1) (@mR _ _ ac_ref16_Read_13.eq_1))) (And.intro (And.intro (And.intro (@mR _ _ ac_ref16_Read_14.eq_1) (@mR _ _ ac_ref16_Read_15.eq_1)) (@mU _ _ ac_ref16_Read_16.eq_1)) (And.intro (@mU _ _ ac_ref16_Read_17.eq_1) (@mU _ _ ac_ref16_Read_18.eq_1))))) (And.intro (And.intro (And.intro (And.intro (And.intro (@mR _ _ ac_ref16_Read_19.eq_1) (@mU _ _ ac_ref16_Read_20.eq_1)) (@mU _ _ ac_ref16_Read_21.eq_1)) (And.intro (@mU _ _ ac_ref16_Read_22.eq_1) (@mU _ _ ac_ref16_Read_23.eq_1))) (And.intro (And.intro (And.intro (@mU _ _ ac_ref16_Read_24.eq_1) (@mU _ _ ac_ref16_Read_25.eq_1)) (@mU _ _ ac_ref16_Read_26.eq_1)) (And.intro (@mU _ _ ac_ref16_Read_27.eq_1) @l_ref16_Read_0.eq_1))) (And.intro (And.intro (And.intro (And.intro @l_ref16_Read_1.eq_1 @l_ref16_Read_2.eq_1) @l_ref16_Read_3.eq_1) (And.intro @l_ref16_Read_7.eq_1 @l_ref16_Read_8.eq_1)) (And.intro (And.intro (And.intro @l_ref16_Read_12.eq_1 @l_ref16_Read_13.eq_1) @l_ref16_Read_14.eq_1) (And.intro @l_ref16_Read_15.eq_1 @l_ref16_Read_19.eq_1)))))

/- scoria/req.ReadAnswer -/
def l_req_ReadAnswer_0 : List AOp := [⟨(some 2), .alloc [(.int .i64 0), (.str []), (.int .i64 0), (.int .i64 0), (.slc [])], none, none, [], none⟩,
  ⟨(some 3), .mv (.k (.int .i64 0)), none, none, [], none⟩]
def ac_req_ReadAnswer_0 : AC := .reg l_req_ReadAnswer_0
def l_req_ReadAnswer_1 : List AOp := [⟨(some 15), .mv (.t 0), none, none, [], none⟩,
  ⟨(some 16), .call false 35 [(.t 15)], none, none, [], none⟩,
  ⟨(some 14), .mv (.t 16), none, none, [], none⟩,
  ⟨(some 17), .ext 0 (.t 14), none, none, [], none⟩,
  ⟨(some 18), .ext 1 (.t 14), none, none, [], none⟩,
  ⟨(some 4), .mv (.t 17), none, none, [], none⟩,
  ⟨(some 5), .mv (.t 18), none, none, [], none⟩]
def ac_req_ReadAnswer_1 : AC := .reg l_req_ReadAnswer_1
def l_req_ReadAnswer_2 : List AOp := [⟨(some 19), .mv (.t 5), none, none, [], none⟩,
  ⟨(some 20), .bin .neq (.t 19) (.k (.int .i64 0)), none, none, [], none⟩]
def ac_req_ReadAnswer_2 : AC := .reg l_req_ReadAnswer_2
def l_req_ReadAnswer_3 : List AOp := [⟨(some 21), .build [(.int .i64 0), (.str []), (.int .i64 0), (.int .i64 0), (.slc [])] [], none, none, [], none⟩,
  ⟨(some 22), .mv (.t 5), none, none, [], none⟩,
  ⟨none, .store 5 (.t 2) (.t 21), none, none, [], none⟩,
  ⟨(some 3), .mv (.t 22), none, none, [], none⟩]
def ac_req_ReadAnswer_3 : AC := .reg l_req_ReadAnswer_3
def ac_req_ReadAnswer_4 : AC := .seq ac_req_ReadAnswer_3 .ret
def ac_req_ReadAnswer_5 : AC := .cond (.t 20) ac_req_ReadAnswer_4 .skip
def ac_req_ReadAnswer_6 : AC := .seq ac_req_ReadAnswer_2 ac_req_ReadAnswer_5
def l_req_ReadAnswer_7 : List AOp := [⟨(some 24), .mv (.t 4), none, none, [], none⟩,
  ⟨(some 25), .call false 32 [], none, none, [], none⟩,
  ⟨(some 26), .call false 36 [(.t 24), (.t 25)], none, none, [], none⟩,
  ⟨(some 23), .mv (.t 26), none, none, [], none⟩,
  ⟨(some 27), .ext 0 (.t 23), none, none, [], none⟩,
  ⟨(some 28), .ext 1 (.t 23), none, none, [], none⟩,
  ⟨(some 29), .ext 2 (.t 23), none, none, [], none⟩,
  ⟨(some 6), .mv (.t 27), none, none, [], none⟩,
  ⟨(some 7), .mv (.t 28), none, none, [], none⟩,
  ⟨(some 5), .mv (.t 29), none, none, [], none⟩]
def ac_req_ReadAnswer_7 : AC := .reg l_req_ReadAnswer_7
def l_req_ReadAnswer_8 : List AOp := [⟨(some 30), .mv (.t 5), none, none, [], none⟩,
  ⟨(some 31), .bin .neq (.t 30) (.k (.int .i64 0)), none, none, [], none⟩,
  ⟨(some 32), .mv (.t 31), none, none, [], none⟩,
  ⟨(some 33), .mv (.t 6), (some (32, false)), none, [], none⟩,
  ⟨(some 34), .isl 1 (.t 33) (.k (.int .i64 3)), (some (32, false)), none, [], none⟩,
  ⟨(some 35), .load none (.t 34), (some (32, false)), none, [], none⟩,
  ⟨(some 36), .mv (.t 7), (some (32, false)), none, [], none⟩,
  ⟨(some 37), .lens (.t 36), (some (32, false)), none, [], none⟩,
  ⟨(some 38), .conv .u64 (.t 37), (some (32, false)), none, [], none⟩,
  ⟨(some 39), .bin .gtr (.t 35) (.t 38), (some (32, false)), none, [], none⟩,
  ⟨(some 40), .pick (.t 32) (.k (.bool true)) (.t 39), none, none, [], none⟩]
def ac_req_ReadAnswer_8 : AC := .reg l_req_ReadAnswer_8
def l_req_ReadAnswer_9 : List AOp := [⟨(some 41), .build [(.int .i64 0), (.str []), (.int .i64 0), (.int .i64 0), (.slc [])] [], none, none, [], none⟩,
  ⟨none, .store 5 (.t 2) (.t 41), none, none, [], none⟩,
  ⟨(some 3), .mv (.k (.int .i64 3)), none, none, [], none⟩]
def ac_req_ReadAnswer_9 : AC := .reg l_req_ReadAnswer_9
def ac_req_ReadAnswer_10 : AC := .seq ac_req_ReadAnswer_9 .ret
def ac_req_ReadAnswer_11 : AC := .cond (.t 40) ac_req_ReadAnswer_10 .skip
def ac_req_ReadAnswer_12 : AC := .seq ac_req_ReadAnswer_8 ac_req_ReadAnswer_11
def l_req_ReadAnswer_13 : List AOp := [⟨(some 42), .mv (.t 6), none, none, [], none⟩,
  ⟨(some 43), .isl 1 (.t 42) (.k (.int .i64 0)), none, none, [0], none⟩,
  ⟨(some 44), .load none (.t 43), none, none, [0], none⟩,
  ⟨(some 45), .conv .i64 (.t 44), none, none, [], none⟩,
  ⟨(some 46), .mv (.t 6), none, none, [], none⟩,
  ⟨(some 47), .isl 1 (.t 46) (.k (.int .i64 1)), none, none, [0], none⟩,
  ⟨(some 48), .load none (.t 47), none, none, [0], none⟩,
  ⟨(some 49), .conv .i64 (.t 48), none, none, [], none⟩,
  ⟨(some 50), .mv (.t 6), none, none, [], none⟩,
  ⟨(some 51), .isl 1 (.t 50) (.k (.int .i64 2)), none, none, [0], none⟩,
  ⟨(some 52), .load none (.t 51), none, none, [0], none⟩,
  ⟨(some 53), .conv .i64 (.t 52), none, none, [], none⟩,
  ⟨(some 54), .mv (.t 7), none, none, [], none⟩,
  ⟨(some 55), .mv (.t 6), none, none, [], none⟩,
  ⟨(some 56), .isl 1 (.t 55) (.k (.int .i64 3)), none, none, [0], none⟩,
  ⟨(some 57), .load none (.t 56), none, none, [0], none⟩,
  ⟨(some 58), .sstr (.t 54) none (some (.t 57)), none, none, [], none⟩,
  ⟨(some 59), .build [(.int .i64 0), (.str []), (.int .i64 0), (.int .i64 0), .nils] [(0, 1, (.t 45)), (2, 1, (.t 49)), (3, 1, (.t 53)), (1, 1, (.t 58))], none, none, [], none⟩,
  ⟨(some 8), .alloc [(.int .i64 0), (.str []), (.int .i64 0), (.int .i64 0), (.slc [])], none, (some 0), [], none⟩,
  ⟨none, .store 5 (.t 8) (.t 59), none, none, [], none⟩]
def ac_req_ReadAnswer_13 : AC := .dreg 1 l_req_ReadAnswer_13
def l_req_ReadAnswer_14 : List AOp := [⟨(some 60), .mv (.t 7), none, none, [], none⟩,
  ⟨(some 61), .mv (.t 6), none, none, [], none⟩,
  ⟨(some 62), .isl 1 (.t 61) (.k (.int .i64 3)), none, none, [], none⟩,
  ⟨(some 63), .load none (.t 62), none, none, [], none⟩,
  ⟨(some 64), .sstr (.t 60) (some (.t 63)) none, none, none, [], none⟩,
  ⟨(some 7), .mv (.t 64), none, none, [], none⟩]
def ac_req_ReadAnswer_14 : AC := .reg l_req_ReadAnswer_14
def l_req_ReadAnswer_15 : List AOp := [⟨(some 65), .mv (.t 6), none, none, [], none⟩,
  ⟨(some 66), .isl 1 (.t 65) (.k (.int .i64 4)), none, none, [], none⟩,
  ⟨(some 67), .load none (.t 66), none, none, [], none⟩,
  ⟨(some 68), .mv (.k (.int .u64 0)), none, none, [], none⟩]
def ac_req_ReadAnswer_15 : AC := .reg l_req_ReadAnswer_15
def l_req_ReadAnswer_16 : List AOp := [⟨(some 69), .bin .lss (.t 68) (.t 67), none, none, [], none⟩]
def ac_req_ReadAnswer_16 : AC := .reg l_req_ReadAnswer_16
def ac_req_ReadAnswer_17 : AC := .cond (.t 69) .skip (.exit 0)
def l_req_ReadAnswer_18 : List AOp := [⟨(some 71), .mv (.t 7), none, none, [], none⟩,
  ⟨(some 72), .blds false [(.int .i64 0)] 1 [(0, (.k (.int .i64 2)))], none, none, [], none⟩,
  ⟨(some 73), .call false 36 [(.t 71), (.t 72)], none, none, [], none⟩,
  ⟨(some 70), .mv (.t 73), none, none, [], none⟩,
  ⟨(some 74), .ext 0 (.t 70), none, none, [], none⟩,
  ⟨(some 75), .ext 1 (.t 70), none, none, [], none⟩,
  ⟨(some 76), .ext 2 (.t 70), none, none, [], none⟩,
  ⟨(some 9), .mv (.t 74), none, none, [], none⟩,
  ⟨(some 10), .mv (.t 75), none, none, [], none⟩,
  ⟨(some 11), .mv (.t 76), none, none, [], none⟩]
def ac_req_ReadAnswer_18 : AC := .reg l_req_ReadAnswer_18
def l_req_ReadAnswer_19 : List AOp := [⟨(some 77), .mv (.t 11), none, none, [], none⟩,
  ⟨(some 78), .bin .neq (.t 77) (.k (.int .i64 0)), none, none, [], none⟩]
def ac_req_ReadAnswer_19 : AC := .reg l_req_ReadAnswer_19
def l_req_ReadAnswer_20 : List AOp := [⟨(some 79), .build [(.int .i64 0), (.str []), (.int .i64 0), (.int .i64 0), (.slc [])] [], none, none, [], none⟩,
  ⟨none, .store 5 (.t 2) (.t 79), none, none, [], none⟩,
  ⟨(some 3), .mv (.k (.int .i64 3)), none, none, [], none⟩]
def ac_req_ReadAnswer_20 : AC := .reg l_req_ReadAnswer_20
def ac_req_ReadAnswer_21 : AC := .seq ac_req_ReadAnswer_20 .ret
def ac_req_ReadAnswer_22 : AC := .cond (.t 78) ac_req_ReadAnswer_21 .skip
def ac_req_ReadAnswer_23 : AC := .seq ac_req_ReadAnswer_19 ac_req_ReadAnswer_22
def l_req_ReadAnswer_24 : List AOp := [⟨(some 80), .faddr 4 (.t 8), none, none, [], none⟩,
  ⟨(some 81), .load none (.t 80), none, none, [0], none⟩,
  ⟨(some 82), .mv (.t 9), none, none, [], none⟩,
  ⟨(some 83), .isl 1 (.t 82) (.k (.int .i64 0)), none, none, [0], none⟩,
  ⟨(some 84), .load none (.t 83), none, none, [0], none⟩,
  ⟨(some 85), .conv .i64 (.t 84), none, none, [], none⟩,
  ⟨(some 86), .blds false [(.int .i64 0)] 1 [(0, (.t 85))], none, none, [0], none⟩,
  ⟨(some 87), .app 1 8 [(.int .i64 0)] (.t 81) (.t 86), none, (some 0), [], none⟩,
  ⟨(some 88), .mv (.t 10), none, none, [], none⟩,
  ⟨(some 89), .faddr 4 (.t 8), none, none, [], none⟩,
  ⟨none, .store 1 (.t 89) (.t 87), none, none, [], none⟩,
  ⟨(some 7), .mv (.t 88), none, none, [], none⟩]
def ac_req_ReadAnswer_24 : AC := .dreg 1 l_req_ReadAnswer_24
def ac_req_ReadAnswer_25 : AC := .seq ac_req_ReadAnswer_23 ac_req_ReadAnswer_24
def ac_req_ReadAnswer_26 : AC := .seq ac_req_ReadAnswer_18 ac_req_ReadAnswer_25
def ac_req_ReadAnswer_27 : AC := .block 1 ac_req_ReadAnswer_26
def l_req_ReadAnswer_28 : List AOp := [⟨(some 90), .bin .add (.t 68) (.k (.int .u64 1)), none, none, [], none⟩,
  ⟨(some 68), .mv (.t 90), none, none, [], none⟩]
def ac_req_ReadAnswer_28 : AC := .reg l_req_ReadAnswer_28
def ac_req_ReadAnswer_29 : AC := .seq ac_req_ReadAnswer_27 ac_req_ReadAnswer_28
def ac_req_ReadAnswer_30 : AC := .seq ac_req_ReadAnswer_17 ac_req_ReadAnswer_29
def ac_req_ReadAnswer_31 : AC := .seq ac_req_ReadAnswer_16 ac_req_ReadAnswer_30
def ac_req_ReadAnswer_32 : AC := .loop [0, 2, 7, 8, 67, 68] 3 ac_req_ReadAnswer_31
def ac_req_ReadAnswer_33 : AC := .block 0 ac_req_ReadAnswer_32
def ac_req_ReadAnswer_34 : AC := .seq ac_req_ReadAnswer_15 ac_req_ReadAnswer_33
def l_req_ReadAnswer_35 : List AOp := [⟨(some 92), .load (some 5) (.t 8), none, none, [], none⟩,
  ⟨(some 93), .call false 14 [(.t 92)], none, none, [], none⟩,
  ⟨(some 91), .mv (.t 93), none, none, [], none⟩,
  ⟨(some 94), .ext 0 (.t 91), none, none, [], none⟩,
  ⟨(some 95), .ext 1 (.t 91), none, none, [], none⟩,
  ⟨(some 12), .mv (.t 94), none, none, [], none⟩,
  ⟨(some 13), .mv (.t 95), none, none, [], none⟩]
def ac_req_ReadAnswer_35 : AC := .reg l_req_ReadAnswer_35
def l_req_ReadAnswer_36 : List AOp := [⟨(some 96), .mv (.t 13), none, none, [], none⟩,
  ⟨(some 97), .bin .neq (.t 96) (.k (.int .i64 0)), none, none, [], none⟩,
  ⟨(some 98), .mv (.t 97), none, none, [], none⟩,
  ⟨(some 99), .mv (.t 12), (some (98, false)), none, [], none⟩,
  ⟨(some 100), .mv (.t 0), (some (98, false)), none, [], none⟩,
  ⟨(some 101), .bin .neq (.t 99) (.t 100), (some (98, false)), none, [], none⟩,
  ⟨(some 102), .pick (.t 98) (.k (.bool true)) (.t 101), none, none, [], none⟩]
def ac_req_ReadAnswer_36 : AC := .reg l_req_ReadAnswer_36
def l_req_ReadAnswer_37 : List AOp := [⟨(some 103), .build [(.int .i64 0), (.str []), (.int .i64 0), (.int .i64 0), (.slc [])] [], none, none, [], none⟩,
  ⟨none, .store 5 (.t 2) (.t 103), none, none, [], none⟩,
  ⟨(some 3), .mv (.k (.int .i64 3)), none, none, [], none⟩]
def ac_req_ReadAnswer_37 : AC := .reg l_req_ReadAnswer_37
def ac_req_ReadAnswer_38 : AC := .seq ac_req_ReadAnswer_37 .ret
def ac_req_ReadAnswer_39 : AC := .cond (.t 102) ac_req_ReadAnswer_38 .skip
def ac_req_ReadAnswer_40 : AC := .seq ac_req_ReadAnswer_36 ac_req_ReadAnswer_39
def ac_req_ReadAnswer_41 : AC := .seq ac_req_ReadAnswer_35 ac_req_ReadAnswer_40
def l_req_ReadAnswer_42 : List AOp := [⟨(some 104), .load (some 5) (.t 8), none, none, [], none⟩,
  ⟨none, .store 5 (.t 2) (.t 104), none, none, [], none⟩,
  ⟨(some 3), .mv (.k (.int .i64 0)), none, none, [], none⟩]
def ac_req_ReadAnswer_42 : AC := .reg l_req_ReadAnswer_42
def ac_req_ReadAnswer_43 : AC := .seq ac_req_ReadAnswer_42 .ret
def ac_req_ReadAnswer_44 : AC := .seq ac_req_ReadAnswer_41 ac_req_ReadAnswer_43
def ac_req_ReadAnswer_45 : AC := .seq ac_req_ReadAnswer_34 ac_req_ReadAnswer_44
def ac_req_ReadAnswer_46 : AC := .seq ac_req_ReadAnswer_14 ac_req_ReadAnswer_45
def ac_req_ReadAnswer_47 : AC := .seq ac_req_ReadAnswer_13 ac_req_ReadAnswer_46
def ac_req_ReadAnswer_48 : AC := .seq ac_req_ReadAnswer_12 ac_req_ReadAnswer_47
def ac_req_ReadAnswer_49 : AC := .seq ac_req_ReadAnswer_7 ac_req_ReadAnswer_48
def ac_req_ReadAnswer_50 : AC := .seq ac_req_ReadAnswer_6 ac_req_ReadAnswer_49
def ac_req_ReadAnswer_51 : AC := .seq ac_req_ReadAnswer_1 ac_req_ReadAnswer_50
def ac_req_ReadAnswer_52 : AC := .seq ac_req_ReadAnswer_0 ac_req_ReadAnswer_51
def ac_req_ReadAnswer : AC := ac_req_ReadAnswer_52
theorem comp_req_ReadAnswer : compF Try.prog [59] (drawR Try.prog [59] Try.f19.ntmps) [([0, 2, 7, 8, 67, 68], 3)] 1 Try.f19 = some (ac_req_ReadAnswer, [.c 2 (some 5), .t 3]) := by kernel_rfl
def U_req_ReadAnswer := (And.intro (And.intro (And.intro (And.intro (And.intro (And.intro (And.intro @ac_req_ReadAnswer.eq_1 (@mR _ _ ac_req_ReadAnswer_0.eq_1)) (@mR _ _ ac_req_ReadAnswer_1.eq_1)) (And.intro (@mR _ _ ac_req_ReadAnswer_2.eq_1) (@mR _ _ ac_req_ReadAnswer_3.eq_1))) (And.intro (And.intro (And.intro (@mU _ _ ac_req_ReadAnswer_4.eq_1) (@mU _ _ ac_req_ReadAnswer_5.eq_1)) (@mU _ _ ac_req_ReadAnswer_6.eq_1)) (And.intro (@mR _ _ ac_req_ReadAnswer_7.eq_1) (@mR _ _ ac_req_ReadAnswer_8.eq_1)))) (And.intro (And.intro (And.intro (And.intro (@mR _ _ ac_req_ReadAnswer_9.eq_1) (@mU _ _ ac_req_ReadAnswer_10.eq_1)) (@mU _ _ ac_req_ReadAnswer_11.eq_1)) (And.intro (@mU _ _ ac_req_ReadAnswer_12.eq_1) (@mD _ _ _ ac_req_ReadAnswer_13.eq_1))) (And.intro (And.intro (@mR _ _ ac_req_ReadAnswer_14.eq_1) (@mR _ _ ac_req_ReadAnswer_15.eq_1)) (And.intro (@mR _ _ ac_req_ReadAnswer_16.eq_1) (@mU _ _ ac_req_ReadAnswer_17.eq_1))))) (And.intro (And.intro (And.intro (And.intro (And.intro (@mR _ _ ac_req_ReadAnswer_18.eq_1) (@mR _ _ ac_req_ReadAnswer_19.eq_1)) (@mR _ _ ac_req_ReadAnswer_20.eq_1)) (And.intro (@mU _ _ ac_req_ReadAnswer_21.eq_1) (@mU _ _ ac_req_ReadAnswer_22.eq_1))) (And.intro (And.intro (@mU _ _ ac_req_ReadAnswer_23.eq_1) (@mD _ _ _ ac_req_ReadAnswer_24.eq_1)) (And.intro (@mU _ _ ac_req_ReadAnswer_25.eq_1) (@mU _ _ ac_req_ReadAnswer_26.eq_1)))) (And.intro (And.intro (And.intro (And.intro (@mU _ _ ac_req_ReadAnswer_27.eq_1) (@mR _ _ ac_req_ReadAnswer_28.eq_1)) (@mU _ _ ac_req_ReadAnswer_29.eq_1)) (And.intro (@mU _ _ ac_req_ReadAnswer_30.eq_1) (@mU _ _ ac_req_ReadAnswer_31.eq_1))) (And.intro (And.intro (@mU _ _ ac_req_ReadAnswer_32.eq_1) (@mU _ _ ac_req_ReadAnswer_33.eq_1)) (And.intro (@mU _ _ ac_req_ReadAnswer_34.eq_1) (@mR _ _ ac_req_ReadAnswer_35.eq_1)))))) (And.intro (And.intro (And.intro (And.intro (And.intro (And.intro (@mR _ _ ac_req_ReadAnswer_36.eq_1) (@mR _ _ ac_req_ReadAnswer_37.eq_1)) (@mU _ _ ac_req_ReadAnswer_38.eq_1)) (And.intro (@mU _ _ ac_req_ReadAnswer_39.eq_1) (@mU _ _ ac_req_ReadAnswer_40.eq_1))) (And.intro (And.intro (And.intro (@mU _ _ ac_req_ReadAnswer_41.eq_1) (@mR _ _ ac_req_ReadAnswer_42.eq_1)) (@mU _ _ ac_req_ReadAnswer_43.eq_1)) (And.intro (@mU _ _ ac_req_ReadAnswer_44.eq_1) (@mU _ _ ac_req_ReadAnswer_45.eq_1)))) (And.intro (And.intro (And.intro (And.intro (@mU _ _ ac_req_ReadAnswer_46.eq_1) (@mU _ _ ac_req_ReadAnswer_47.eq_1)) (@mU _ _ ac_req_ReadAnswer_48.eq_1)) (And.intro (@mU _ _ ac_req_ReadAnswer_49.eq_1) (@mU _ _ ac_req_ReadAnswer_50.eq_1))) (And.intro (And.intro (@mU _ _ ac_req_ReadAnswer_51.eq_1) (@mU _ _ ac_req_ReadAnswer_52.eq_1)) (And.intro @l_req_ReadAnswer_0.eq_1 @l_req_ReadAnswer_1.eq_1)))) (And.intro (And.intro (And.intro (And.intro (And.intro @l_req_ReadAnswer_2.eq_1 @l_req_ReadAnswer_3.eq_1) @l_req_ReadAnswer_7.eq_1) (And.intro @l_req_ReadAnswer_8.eq_1 @l_req_ReadAnswer_9.eq_1)) (And.intro (And.intro @l_req_ReadAnswer_13.eq_1 @l_req_ReadAnswer_14.eq_1) (And.intro @l_req_ReadAnswer_15.eq_1 @l_req_ReadAnswer_16.eq_1))) (And.intro (And.intro (And.intro (And.intro @l_req_ReadAnswer_18.eq_1 @l_req_ReadAnswer_19.eq_1) @l_req_ReadAnswer_20.eq_1) (And.intro @l_req_ReadAnswer_24.eq_1 @l_req_ReadAnswer_28.eq_1)) (And.intro (And.intro @l_req_ReadAnswer_35.eq_1 @l_req_ReadAnswer_36.eq_1) (And.intro @l_req_ReadAnswer_37.eq_1 @l_req_ReadAnswer_42.eq_1))))))

/- scoria/scoriaref16.ReadAnswer -/
def l_ref16_ReadAnswer_0 : List AOp := [⟨(some 2), .alloc [(.int .i64 0), (.str []), (.int .i64 0), (.int .i64 0), (.slc [])], none, none, [], none⟩,
  ⟨(some 3), .mv (.k (.int .i64 0)), none, none, [], none⟩]
def ac_ref16_ReadAnswer_0 : AC := .reg l_ref16_ReadAnswer_0
def l_ref16_ReadAnswer_1 : List AOp := [⟨(some 12), .mv (.t 0), none, none, [], none⟩,
  ⟨(some 13), .call false 37 [(.t 12)], none, none, [], none⟩,
  ⟨(some 11), .mv (.t 13), none, none, [], none⟩,
  ⟨(some 14), .ext 0 (.t 11), none, none, [], none⟩,
  ⟨(some 15), .ext 1 (.t 11), none, none, [], none⟩,
  ⟨(some 4), .mv (.t 14), none, none, [], none⟩,
  ⟨(some 5), .mv (.t 15), none, none, [], none⟩]
def ac_ref16_ReadAnswer_1 : AC := .reg l_ref16_ReadAnswer_1
def l_ref16_ReadAnswer_2 : List AOp := [⟨(some 16), .mv (.t 5), none, none, [], none⟩,
  ⟨(some 17), .bin .neq (.t 16) (.k (.int .i64 0)), none, none, [], none⟩]
def ac_ref16_ReadAnswer_2 : AC := .reg l_ref16_ReadAnswer_2
def l_ref16_ReadAnswer_3 : List AOp := [⟨(some 18), .build [(.int .i64 0), (.str []), (.int .i64 0), (.int .i64 0), (.slc [])] [], none, none, [], none⟩,
  ⟨(some 19), .mv (.t 5), none, none, [], none⟩,
  ⟨none, .store 5 (.t 2) (.t 18), none, none, [], none⟩,
  ⟨(some 3), .mv (.t 19), none, none, [], none⟩]
def ac_ref16_ReadAnswer_3 : AC := .reg l_ref16_ReadAnswer_3
def ac_ref16_ReadAnswer_4 : AC := .seq ac_ref16_ReadAnswer_3 .ret
def ac_ref16_ReadAnswer_5 : AC := .cond (.t 17) ac_ref16_ReadAnswer_4 .skip
def ac_ref16_ReadAnswer_6 : AC := .seq ac_ref16_ReadAnswer_2 ac_ref16_ReadAnswer_5
def l_ref16_ReadAnswer_7 : List AOp := [⟨(some 20), .mv (.t 4), none, none, [], none⟩,
  ⟨(some 21), .lens (.t 20), none, none, [], none⟩,
  ⟨(some 22), .bin .lss (.t 21) (.k (.int .i64 12)), none, none, [], none⟩,
  ⟨(some 23), .mv (.t 22), none, none, [], none⟩,
  ⟨(some 24), .mv (.t 4), (some (23, false)), none, [], none⟩,
  ⟨(some 25), .call false 38 [(.t 24), (.k (.int .i64 9)), (.k (.int .i64 2))], (some (23, false)), none, [], none⟩,
  ⟨(some 26), .mv (.t 4), (some (23, false)), none, [], none⟩,
  ⟨(some 27), .lens (.t 26), (some (23, false)), none, [], none⟩,
  ⟨(some 28), .bin .sub (.t 27) (.k (.int .i64 12)), (some (23, false)), none, [], none⟩,
  ⟨(some 29), .bin .gtr (.t 25) (.t 28), (some (23, false)), none, [], none⟩,
  ⟨(some 30), .pick (.t 23) (.k (.bool true)) (.t 29), none, none, [], none⟩]
def ac_ref16_ReadAnswer_7 : AC := .reg l_ref16_ReadAnswer_7
def l_ref16_ReadAnswer_8 : List AOp := [⟨(some 31), .build [(.int .i64 0), (.str []), (.int .i64 0), (.int .i64 0), (.slc [])] [], none, none, [], none⟩,
  ⟨none, .store 5 (.t 2) (.t 31), none, none, [], none⟩,
  ⟨(some 3), .mv (.k (.int .i64 3)), none, none, [], none⟩]
def ac_ref16_ReadAnswer_8 : AC := .reg l_ref16_ReadAnswer_8
def ac_ref16_ReadAnswer_9 : AC := .seq ac_ref16_ReadAnswer_8 .ret
def ac_ref16_ReadAnswer_10 : AC := .cond (.t 30) ac_ref16_ReadAnswer_9 .skip
def ac_ref16_ReadAnswer_11 : AC := .seq ac_ref16_ReadAnswer_7 ac_ref16_ReadAnswer_10
def l_ref16_ReadAnswer_12 : List AOp := [⟨(some 32), .mv (.t 4), none, none, [], none⟩,
  ⟨(some 33), .call false 38 [(.t 32), (.k (.int .i64 9)), (.k (.int .i64 2))], none, none, [], none⟩,
  ⟨(some 34), .bin .add (.k (.int .i64 12)) (.t 33), none, none, [], none⟩,
  ⟨(some 6), .mv (.t 34), none, none, [], none⟩]
def ac_ref16_ReadAnswer_12 : AC := .reg l_ref16_ReadAnswer_12
def l_ref16_ReadAnswer_13 : List AOp := [⟨(some 35), .mv (.t 4), none, none, [], none⟩,
  ⟨(some 36), .call false 38 [(.t 35), (.k (.int .i64 0)), (.k (.int .i64 1))], none, none, [0], none⟩,
  ⟨(some 37), .mv (.t 4), none, none, [], none⟩,
  ⟨(some 38), .call false 38 [(.t 37), (.k (.int .i64 1)), (.k (.int .i64 4))], none, none, [0], none⟩,
  ⟨(some 39), .mv (.t 4), none, none, [], none⟩,
  ⟨(some 40), .call false 38 [(.t 39), (.k (.int .i64 5)), (.k (.int .i64 4))], none, none, [0], none⟩,
  ⟨(some 41), .mv (.t 4), none, none, [], none⟩,
  ⟨(some 42), .mv (.t 6), none, none, [], none⟩,
  ⟨(some 43), .sstr (.t 41) (some (.k (.int .i64 12))) (some (.t 42)), none, none, [], none⟩,
  ⟨(some 44), .build [(.int .i64 0), (.str []), (.int .i64 0), (.int .i64 0), .nils] [(0, 1, (.t 36)), (2, 1, (.t 38)), (3, 1, (.t 40)), (1, 1, (.t 43))], none, none, [], none⟩,
  ⟨(some 7), .alloc [(.int .i64 0), (.str []), (.int .i64 0), (.int .i64 0), (.slc [])], none, (some 0), [], none⟩,
  ⟨none, .store 5 (.t 7) (.t 44), none, none, [], none⟩]
def ac_ref16_ReadAnswer_13 : AC := .dreg 1 l_ref16_ReadAnswer_13
def l_ref16_ReadAnswer_14 : List AOp := [⟨(some 45), .mv (.t 6), none, none, [], none⟩,
  ⟨(some 8), .mv (.t 45), none, none, [], none⟩]
def ac_ref16_ReadAnswer_14 : AC := .reg l_ref16_ReadAnswer_14
def l_ref16_ReadAnswer_15 : List AOp := [⟨(some 46), .mv (.t 8), none, none, [], none⟩,
  ⟨(some 47), .mv (.t 4), none, none, [], none⟩,
  ⟨(some 48), .lens (.t 47), none, none, [], none⟩,
  ⟨(some 49), .bin .lss (.t 46) (.t 48), none, none, [], none⟩,
  ⟨(some 50), .mv (.t 49), none, none, [], none⟩,
  ⟨(some 51), .faddr 4 (.t 7), (some (50, true)), none, [], none⟩,
  ⟨(some 52), .load none (.t 51), (some (50, true)), none, [], none⟩,
  ⟨(some 53), .len (.t 52), (some (50, true)), none, [], none⟩,
  ⟨(some 54), .bin .lss (.t 53) (.k (.int .i64 9)), (some (50, true)), none, [], none⟩,
  ⟨(some 55), .pick (.t 50) (.t 54) (.k (.bool false)), none, none, [], none⟩]
def ac_ref16_ReadAnswer_15 : AC := .reg l_ref16_ReadAnswer_15
def ac_ref16_ReadAnswer_16 : AC := .cond (.t 55) .skip (.exit 0)
def ac_ref16_ReadAnswer_17 : AC := .seq ac_ref16_ReadAnswer_15 ac_ref16_ReadAnswer_16
def l_ref16_ReadAnswer_18 : List AOp := [⟨(some 58), .faddr 4 (.t 7), none, none, [], none⟩,
  ⟨(some 59), .load none (.t 58), none, none, [0], none⟩,
  ⟨(some 60), .mv (.t 4), none, none, [], none⟩,
  ⟨(some 61), .mv (.t 8), none, none, [], none⟩,
  ⟨(some 62), .call false 38 [(.t 60), (.t 61), (.k (.int .i64 2))], none, none, [0], none⟩,
  ⟨(some 63), .blds false [(.int .i64 0)] 1 [(0, (.t 62))], none, none, [0], none⟩,
  ⟨(some 64), .app 1 8 [(.int .i64 0)] (.t 59) (.t 63), none, (some 0), [], none⟩,
  ⟨(some 65), .faddr 4 (.t 7), none, none, [], none⟩,
  ⟨none, .store 1 (.t 65) (.t 64), none, none, [], none⟩]
def ac_ref16_ReadAnswer_18 : AC := .dreg 1 l_ref16_ReadAnswer_18
def ac_ref16_ReadAnswer_19 : AC := .block 1 ac_ref16_ReadAnswer_18
def l_ref16_ReadAnswer_20 : List AOp := [⟨(some 56), .mv (.t 8), none, none, [], none⟩,
  ⟨(some 57), .bin .add (.t 56) (.k (.int .i64 2)), none, none, [], none⟩,
  ⟨(some 8), .mv (.t 57), none, none, [], none⟩]
def ac_ref16_ReadAnswer_20 : AC := .reg l_ref16_ReadAnswer_20
def ac_ref16_ReadAnswer_21 : AC := .seq ac_ref16_ReadAnswer_19 ac_ref16_ReadAnswer_20
def ac_ref16_ReadAnswer_22 : AC := .seq ac_ref16_ReadAnswer_17 ac_ref16_ReadAnswer_21
def ac_ref16_ReadAnswer_23 : AC := .loop [0, 2, 4, 7, 8] 3 ac_ref16_ReadAnswer_22
def ac_ref16_ReadAnswer_24 : AC := .block 0 ac_ref16_ReadAnswer_23
def ac_ref16_ReadAnswer_25 : AC := .seq ac_ref16_ReadAnswer_14 ac_ref16_ReadAnswer_24
def l_ref16_ReadAnswer_26 : List AOp := [⟨(some 67), .load (some 5) (.t 7), none, none, [], none⟩,
  ⟨(some 68), .call false 15 [(.t 67)], none, none, [], none⟩,
  ⟨(some 66), .mv (.t 68), none, none, [], none⟩,
  ⟨(some 69), .ext 0 (.t 66), none, none, [], none⟩,
  ⟨(some 70), .ext 1 (.t 66), none, none, [], none⟩,
  ⟨(some 9), .mv (.t 69), none, none, [], none⟩,
  ⟨(some 10), .mv (.t 70), none, none, [], none⟩]
def ac_ref16_ReadAnswer_26 : AC := .reg l_ref16_ReadAnswer_26
def l_ref16_ReadAnswer_27 : List AOp := [⟨(some 71), .mv (.t 10), none, none, [], none⟩,
  ⟨(some 72), .bin .neq (.t 71) (.k (.int .i64 0)), none, none, [], none⟩,
  ⟨(some 73), .mv (.t 72), none, none, [], none⟩,
  ⟨(some 74), .mv (.t 9), (some (73, false)), none, [], none⟩,
  ⟨(some 75), .mv (.t 0), (some (73, false)), none, [], none⟩,
  ⟨(some 76), .bin .neq (.t 74) (.t 75), (some (73, false)), none, [], none⟩,
  ⟨(some 77), .pick (.t 73) (.k (.bool true)) (.t 76), none, none, [], none⟩]
def ac_ref16_ReadAnswer_27 : AC := .reg l_ref16_ReadAnswer_27
def l_ref16_ReadAnswer_28 : List AOp := [⟨(some 78), .build [(.int .i64 0), (.str []), (.int .i64 0), (.int .i64 0), (.slc [])] [], none, none, [], none⟩,
  ⟨none, .store 5 (.t 2) (.t 78), none, none, [], none⟩,
  ⟨(some 3), .mv (.k (.int .i64 3)), none, none, [], none⟩]
def ac_ref16_ReadAnswer_28 : AC := .reg l_ref16_ReadAnswer_28
def ac_ref16_ReadAnswer_29 : AC := .seq ac_ref16_ReadAnswer_28 .ret
def ac_ref16_ReadAnswer_30 : AC := .cond (.t 77) ac_ref16_ReadAnswer_29 .skip
def ac_ref16_ReadAnswer_31 : AC := .seq ac_ref16_ReadAnswer_27 ac_ref16_ReadAnswer_30
def l_ref16_ReadAnswer_32 : List AOp := [⟨(some 79), .load (some 5) (.t 7), none, none, [], none⟩,
  ⟨none, .store 5 (.t 2) (.t 79), none, none, [], none⟩,
  ⟨(some 3), .mv (.k (.int .i64 0)), none, none, [], none⟩]
def ac_ref16_ReadAnswer_32 : AC := .reg l_ref16_ReadAnswer_32
def ac_ref16_ReadAnswer_33 : AC := .seq ac_ref16_ReadAnswer_32 .ret
def ac_ref16_ReadAnswer_34 : AC := .seq ac_ref16_ReadAnswer_31 ac_ref16_ReadAnswer_33
def ac_ref16_ReadAnswer_35 : AC := .seq ac_ref16_ReadAnswer_26 ac_ref16_ReadAnswer_34
def ac_ref16_ReadAnswer_36 : AC := .seq ac_ref16_ReadAnswer_25 ac_ref16_ReadAnswer_35
def ac_ref16_ReadAnswer_37 : AC := .seq ac_ref16_ReadAnswer_13 ac_ref16_ReadAnswer_36
def ac_ref16_ReadAnswer_38 : AC := .seq ac_ref16_ReadAnswer_12 ac_ref16_ReadAnswer_37
def ac_ref16_ReadAnswer_39 : AC := .seq ac_ref16_ReadAnswer_11 ac_ref16_ReadAnswer_38
def ac_ref16_ReadAnswer_40 : AC := .seq ac_ref16_ReadAnswer_6 ac_ref16_ReadAnswer_39
def ac_ref16_ReadAnswer_41 : AC := .seq ac_ref16_ReadAnswer_1 ac_ref16_ReadAnswer_40
def ac_ref16_ReadAnswer_42 : AC := .seq ac_ref16_ReadAnswer_0 ac_ref16_ReadAnswer_41
def ac_ref16_ReadAnswer : AC := ac_ref16_ReadAnswer_42
theorem comp_ref16_ReadAnswer : compF Try.prog [44] (drawR Try.prog [44] Try.f20.ntmps) [([0, 2, 4, 7, 8], 3)] 1 Try.f20 = some (ac_ref16_ReadAnswer, [.c 2 (some 5), .t 3]) := by kernel_rfl
def U_ref16_ReadAnswer := (And.intro (And.intro (And.intro (And.intro (And.intro (And.intro @ac_ref16_ReadAnswer.eq_1 (@mR _ _ ac_ref16_ReadAnswer_0.eq_1)) (And.intro (@mR _ _ ac_ref16_ReadAnswer_1.eq_1) (@mR _ _ ac_ref16_ReadAnswer_2.eq_1))) (And.intro (And.intro (@mR _ _ ac_ref16_ReadAnswer_3.eq_1) (@mU _ _ ac_ref16_ReadAnswer_4.eq_1)) (And.intro (@mU _ _ ac_ref16_ReadAnswer_5.eq_1) (@mU _ _ ac_ref16_ReadAnswer_6.eq_1)))) (And.intro (And.intro (And.intro (@mR _ _ ac_ref16_ReadAnswer_7.eq_1) (@mR _ _ ac_ref16_ReadAnswer_8.eq_1)) (And.intro (@mU _ _ ac_ref16_ReadAnswer_9.eq_1) (@mU _ _ ac_ref16_ReadAnswer_10.eq_1))) (And.intro (And.intro (@mU _ _ ac_ref16_ReadAnswer_11.eq_1) (@mR _ _ ac_ref16_ReadAnswer_12.eq_1)) (@mD _ _ _ ac_ref16_ReadAnswer_13.eq_1)))) (And.intro (And.intro (And.intro (And.intro (@mR _ _ ac_ref16_ReadAnswer_14.eq_1) (@mR _ _ ac_ref16_ReadAnswer_15.eq_1)) (And.intro (@mU _ _ ac_ref16_ReadAnswer_16.eq_1) (@mU _ _ ac_ref16_ReadAnswer_17.eq_1))) (And.intro (And.intro (@mD _ _ _ ac_ref16_ReadAnswer_18.eq_1) (@mU _ _ ac_ref16_ReadAnswer_19.eq_1)) (And.intro (@mR _ _ ac_ref16_ReadAnswer_20.eq_1) (@mU _ _ ac_ref16_ReadAnswer_21.eq_1)))) (And.intro (And.intro (And.intro (@mU _ _ ac_ref16_ReadAnswer_22.eq_1) (@mU _ _ ac_ref16_ReadAnswer_23.eq_1)) (And.intro (@mU _ _ ac_ref16_ReadAnswer_24.eq_1) (@mU _ _ ac_ref16_ReadAnswer_25.eq_1))) (And.intro (And.intro (@mR _ _ ac_ref16_ReadAnswer_26.eq_1) (@mR _ _ ac_ref16_ReadAnswer_27.eq_1)) (@mR _ _ ac_ref16_ReadAnswer_28.eq_1))))) (And.intro (And.intro (And.intro (And.intro (And.intro (@mU _ _ ac_ref16_ReadAnswer_29.eq_1) (@mU _ _ ac_ref16_ReadAnswer_30.eq_1)) (And.intro (@mU _ _ ac_ref16_ReadAnswer_31.eq_1) (@mR _ _ ac_ref16_ReadAnswer_32.eq_1))) (And.intro (And.intro (@mU _ _ ac_ref16_ReadAnswer_33.eq_1) (@mU _ _ ac_ref16_ReadAnswer_34.eq_1)) (And.intro (@mU _ _ ac_ref16_ReadAnswer_35.eq_1) (@mU _ _ ac_ref16_ReadAnswer_36.eq_1)))) (And.intro (And.intro (And.intro (@mU _ _ ac_ref16_ReadAnswer_37.eq_1) (@mU _ _ ac_ref16_ReadAnswer_38.eq_1)) (And.intro (@mU _ _ ac_ref16_ReadAnswer_39.eq_1) (@mU _ _ ac_ref16_ReadAnswer_40.eq_1))) (And.intro (And.intro (@mU _ _ ac_ref16_ReadAnswer_41.eq_1) (@mU _ _ ac_ref16_ReadAnswer_42.eq_1)) @l_ref16_ReadAnswer_0.eq_1))) (And.intro (And.intro (And.intro (And.intro @l_ref16_ReadAnswer_1.eq_1 @l_ref16_ReadAnswer_2.eq_1) (And.intro @l_ref16_ReadAnswer_3.eq_1 @l_ref16_ReadAnswer_7.eq_1)) (And.intro (And.intro @l_ref16_ReadAnswer_8.eq_1 @l_ref16_ReadAnswer_12.eq_1) (And.intro @l_ref16_ReadAnswer_13.eq_1 @l_ref16_ReadAnswer_14.eq_1))) (And.intro (And.intro (And.intro @l_ref16_ReadAnswer_15.eq_1 @l_ref16_ReadAnswer_18.eq_1) (And.intro @l_ref16_ReadAnswer_20.eq_1 @l_ref16_ReadAnswer_26.eq_1)) (And.intro (And.intro @l_ref16_ReadAnswer_27.eq_1 @l_ref16_ReadAnswer_28.eq_1) @l_ref16_ReadAnswer_32.eq_1)))))

/- scoria/scoriaref16.Same -/
def l_ref16_Same_0 : List AOp := [⟨(some 2), .box (.t 0), none, none, [], none⟩,
  ⟨(some 3), .box (.t 1), none, none, [], none⟩,
  ⟨(some 4), .mv (.k (.bool false)), none, none, [], none⟩]
def ac_ref16_Same_0 : AC := .reg l_ref16_Same_0
def l_ref16_Same_1 : List AOp := [⟨(some 6), .faddr 0 (.t 2), none, none, [], none⟩,
  ⟨(some 7), .load none (.t 6), none, none, [], none⟩,
  ⟨(some 8), .faddr 0 (.t 3), none, none, [], none⟩,
  ⟨(some 9), .load none (.t 8), none, none, [], none⟩,
  ⟨(some 10), .bin .neq (.t 7) (.t 9), none, none, [], none⟩,
  ⟨(some 11), .mv (.t 10), none, none, [], none⟩,
  ⟨(some 12), .faddr 1 (.t 2), (some (11, false)), none, [], none⟩,
  ⟨(some 13), .load none (.t 12), (some (11, false)), none, [], none⟩,
  ⟨(some 14), .faddr 1 (.t 3), (some (11, false)), none, [], none⟩,
  ⟨(some 15), .load none (.t 14), (some (11, false)), none, [], none⟩,
  ⟨(some 16), .bin .neq (.t 13) (.t 15), (some (11, false)), none, [], none⟩,
  ⟨(some 17), .pick (.t 11) (.k (.bool true)) (.t 16), none, none, [], none⟩,
  ⟨(some 18), .mv (.t 17), none, none, [], none⟩,
  ⟨(some 19), .faddr 2 (.t 2), (some (18, false)), none, [], none⟩,
  ⟨(some 20), .load none (.t 19), (some (18, false)), none, [], none⟩,
  ⟨(some 21), .faddr 2 (.t 3), (some (18, false)), none, [], none⟩,
  ⟨(some 22), .load none (.t 21), (some (18, false)), none, [], none⟩,
  ⟨(some 23), .bin .neq (.t 20) (.t 22), (some (18, false)), none, [], none⟩,
  ⟨(some 24), .pick (.t 18) (.k (.bool true)) (.t 23), none, none, [], none⟩,
  ⟨(some 25), .mv (.t 24), none, none, [], none⟩,
  ⟨(some 26), .faddr 3 (.t 2), (some (25, false)), none, [], none⟩,
  ⟨(some 27), .load none (.t 26), (some (25, false)), none, [], none⟩,
  ⟨(some 28), .faddr 3 (.t 3), (some (25, false)), none, [], none⟩,
  ⟨(some 29), .load none (.t 28), (some (25, false)), none, [], none⟩,
  ⟨(some 30), .bin .neq (.t 27) (.t 29), (some (25, false)), none, [], none⟩,
  ⟨(some 31), .pick (.t 25) (.k (.bool true)) (.t 30), none, none, [], none⟩,
  ⟨(some 32), .mv (.t 31), none, none, [], none⟩,
  ⟨(some 33), .faddr 4 (.t 2), (some (32, false)), none, [], none⟩,
  ⟨(some 34), .load none (.t 33), (some (32, false)), none, [], none⟩,
  ⟨(some 35), .len (.t 34), (some (32, false)), none, [], none⟩,
  ⟨(some 36), .faddr 4 (.t 3), (some (32, false)), none, [], none⟩,
  ⟨(some 37), .load none (.t 36), (some (32, false)), none, [], none⟩,
  ⟨(some 38), .len (.t 37), (some (32, false)), none, [], none⟩,
  ⟨(some 39), .bin .neq (.t 35) (.t 38), (some (32, false)), none, [], none⟩,
  ⟨(some 40), .pick (.t 32) (.k (.bool true)) (.t 39), none, none, [], none⟩]
def ac_ref16_Same_1 : AC := .reg l_ref16_Same_1
def l_ref16_Same_2 : List AOp := [⟨(some 4), .mv (.k (.bool false)), none, none, [], none⟩]
def ac_ref16_Same_2 : AC := .reg l_ref16_Same_2
def ac_ref16_Same_3 : AC := .seq ac_ref16_Same_2 .ret
def ac_ref16_Same_4 : AC := .cond (.t 40) ac_ref16_Same_3 .skip
def ac_ref16_Same_5 : AC := .seq ac_ref16_Same_1 ac_ref16_Same_4
def l_ref16_Same_6 : List AOp := [⟨(some 5), .mv (.k (.int .i64 0)), none, none, [], none⟩]
def ac_ref16_Same_6 : AC := .reg l_ref16_Same_6
def l_ref16_Same_7 : List AOp := [⟨(some 41), .mv (.t 5), none, none, [], none⟩,
  ⟨(some 42), .faddr 4 (.t 2), none, none, [], none⟩,
  ⟨(some 43), .load none (.t 42), none, none, [], none⟩,
  ⟨(some 44), .len (.t 43), none, none, [], none⟩,
  ⟨(some 45), .bin .lss (.t 41) (.t 44), none, none, [], none⟩]
def ac_ref16_Same_7 : AC := .reg l_ref16_Same_7
def ac_ref16_Same_8 : AC := .cond (.t 45) .skip (.exit 0)
def ac_ref16_Same_9 : AC := .seq ac_ref16_Same_7 ac_ref16_Same_8
def l_ref16_Same_10 : List AOp := [⟨(some 48), .faddr 4 (.t 2), none, none, [], none⟩,
  ⟨(some 49), .load none (.t 48), none, none, [], none⟩,
  ⟨(some 50), .mv (.t 5), none, none, [], none⟩,
  ⟨(some 51), .isl 1 (.t 49) (.t 50), none, none, [], none⟩,
  ⟨(some 52), .load none (.t 51), none, none, [], none⟩,
  ⟨(some 53), .faddr 4 (.t 3), none, none, [], none⟩,
  ⟨(some 54), .load none (.t 53), none, none, [], none⟩,
  ⟨(some 55), .mv (.t 5), none, none, [], none⟩,
  ⟨(some 56), .isl 1 (.t 54) (.t 55), none, none, [], none⟩,
  ⟨(some 57), .load none (.t 56), none, none, [], none⟩,
  ⟨(some 58), .bin .neq (.t 52) (.t 57), none, none, [], none⟩]
def ac_ref16_Same_10 : AC := .dreg 0 l_ref16_Same_10
def l_ref16_Same_11 : List AOp := [⟨(some 4), .mv (.k (.bool false)), none, none, [], none⟩]
def ac_ref16_Same_11 : AC := .reg l_ref16_Same_11
def ac_ref16_Same_12 : AC := .seq ac_ref16_Same_11 .ret
def ac_ref16_Same_13 : AC := .cond (.t 58) ac_ref16_Same_12 .skip
def ac_ref16_Same_14 : AC := .seq ac_ref16_Same_10 ac_ref16_Same_13
def ac_ref16_Same_15 : AC := .block 1 ac_ref16_Same_14
def l_ref16_Same_16 : List AOp := [⟨(some 46), .mv (.t 5), none, none, [], none⟩,
  ⟨(some 47), .bin .add (.t 46) (.k (.int .i64 1)), none, none, [], none⟩,
  ⟨(some 5), .mv (.t 47), none, none, [], none⟩]
def ac_ref16_Same_16 : AC := .reg l_ref16_Same_16
def ac_ref16_Same_17 : AC := .seq ac_ref16_Same_15 ac_ref16_Same_16
def ac_ref16_Same_18 : AC := .seq ac_ref16_Same_9 ac_ref16_Same_17
def ac_ref16_Same_19 : AC := .loop [2, 3, 5] 2 ac_ref16_Same_18
def ac_ref16_Same_20 : AC := .block 0 ac_ref16_Same_19
def ac_ref16_Same_21 : AC := .seq ac_ref16_Same_6 ac_ref16_Same_20
def l_ref16_Same_22 : List AOp := [⟨(some 4), .mv (.k (.bool true)), none, none, [], none⟩]
def ac_ref16_Same_22 : AC := .reg l_ref16_Same_22
def ac_ref16_Same_23 : AC := .seq ac_ref16_Same_22 .ret
def ac_ref16_Same_24 : AC := .seq ac_ref16_Same_21 ac_ref16_Same_23
def ac_ref16_Same_25 : AC := .seq ac_ref16_Same_5 ac_ref16_Same_24
def ac_ref16_Same_26 : AC := .seq ac_ref16_Same_0 ac_ref16_Same_25
def ac_ref16_Same : AC := ac_ref16_Same_26
theorem comp_ref16_Same : compF Try.prog [] (drawR Try.prog [] Try.f21.ntmps) [([2, 3, 5], 2)] 2 Try.f21 = some (ac_ref16_Same, [.t 4]) := by kernel_rfl
def U_ref16_Same := (And.intro (And.intro (And.intro (And.intro (And.intro (And.intro @ac_ref16_Same.eq_1 (@mR _ _ ac_ref16_Same_0.eq_1)) (@mR _ _ ac_ref16_Same_1.eq_1)) (And.intro (@mR _ _ ac_ref16_Same_2.eq_1) (@mU _ _ ac_ref16_Same_3.eq_1))) (And.intro (And.intro (And.intro (@mU _ _ ac_ref16_Same_4.eq_1) (@mU _ _ ac_ref16_Same_5.eq_1)) (@mR _ _ ac_ref16_Same_6.eq_1)) (And.intro (@mR _ _ ac_ref16_Same_7.eq_1) (@mU _ _ ac_ref16_Same_8.eq_1)))) (And.intro (And.intro (And.intro (And.intro (@mU _ _ ac_ref16_Same_9.eq_1) (@mD _ _ _ ac_ref16_Same_10.eq_1)) (@mR _ _ ac_ref16_Same_11.eq_1)) (And.intro (@mU _ _ ac_ref16_Same_12.eq_1) (@mU _ _ ac_ref16_Same_13.eq_1))) (And.intro (And.intro (@mU _ _ ac_ref16_Same_14.eq_1) (@mU _ _ ac_ref16_Same_15.eq_1)) (And.intro (@mR _ _ ac_ref16_Same_16.eq_1) (@mU _ _ ac_ref16_Same_17.eq_1))))) (And.intro (And.intro (And.intro (And.intro (And.intro (@mU _ _ ac_ref16_Same_18.eq_1) (@mU _ _ ac_ref16_Same_19.eq_1)) (@mU _ _ ac_ref16_Same_20.eq_1)) (And.intro (@mU _ _ ac_ref16_Same_21.eq_1) (@mR _ _ ac_ref16_Same_22.eq_1))) (And.intro (And.intro (@mU _ _ ac_ref16_Same_23.eq_1) (@mU _ _ ac_ref16_Same_24.eq_1)) (And.intro (@mU _ _ ac_ref16_Same_25.eq_1) (@mU _ _ ac_ref16_Same_26.eq_1)))) (And.intro (And.intro (And.intro (And.intro @l_ref16_Same_0.eq_1 @l_ref16_Same_1.eq_1) @l_ref16_Same_2.eq_1) (And.intro @l_ref16_Same_6.eq_1 @l_ref16_Same_7.eq_1)) (And.intro (And.intro @l_ref16_Same_10.eq_1 @l_ref16_Same_11.eq_1) (And.intro @l_ref16_Same_16.eq_1 @l_ref16_Same_22.eq_1)))))

/- scoria/req.named -/
def l_req_named_0 : List AOp := [⟨(some 1), .box (.t 0), none, none, [], none⟩,
  ⟨(some 2), .alloc [(.int .i64 0), (.int .i64 0), (.int .i64 0), (.int .i64 0), (.str [])], none, none, [], none⟩,
  ⟨(some 3), .mv (.k (.bool false)), none, none, [], none⟩]
def ac_req_named_0 : AC := .reg l_req_named_0
def l_req_named_1 : List AOp := [⟨(some 5), .faddr 0 (.t 1), none, none, [], none⟩,
  ⟨(some 6), .load none (.t 5), none, none, [], none⟩,
  ⟨(some 7), .build [(.int .i64 0), (.int .i64 0), (.int .i64 0), (.int .i64 0), (.str [])] [(0, 1, (.t 6))], none, none, [], none⟩,
  ⟨(some 4), .alloc [(.int .i64 0), (.int .i64 0), (.int .i64 0), (.int .i64 0), (.str [])], none, none, [], none⟩,
  ⟨none, .store 5 (.t 4) (.t 7), none, none, [], none⟩]
def ac_req_named_1 : AC := .reg l_req_named_1
def l_req_named_2 : List AOp := [⟨(some 8), .faddr 0 (.t 1), none, none, [], none⟩,
  ⟨(some 9), .load none (.t 8), none, none, [], none⟩]
def ac_req_named_2 : AC := .reg l_req_named_2
def l_req_named_3 : List AOp := [⟨(some 11), .bin .eql (.t 9) (.k (.int .i64 5)), none, none, [], none⟩,
  ⟨(some 10), .mv (.t 11), none, none, [], none⟩]
def ac_req_named_3 : AC := .reg l_req_named_3
def l_req_named_4 : List AOp := [⟨(some 12), .bin .eql (.t 9) (.k (.int .i64 6)), none, none, [], none⟩,
  ⟨(some 10), .mv (.t 12), none, none, [], none⟩]
def ac_req_named_4 : AC := .reg l_req_named_4
def l_req_named_5 : List AOp := [⟨(some 13), .bin .eql (.t 9) (.k (.int .i64 7)), none, none, [], none⟩,
  ⟨(some 10), .mv (.t 13), none, none, [], none⟩]
def ac_req_named_5 : AC := .reg l_req_named_5
def ac_req_named_6 : AC := .cond (.t 10) .skip ac_req_named_5
def ac_req_named_7 : AC := .seq ac_req_named_4 ac_req_named_6
def ac_req_named_8 : AC := .cond (.t 10) .skip ac_req_named_7
def ac_req_named_9 : AC := .seq ac_req_named_3 ac_req_named_8
def ac_req_named_10 : AC := .cond (.t 10) (.exit 1) .skip
def ac_req_named_11 : AC := .seq ac_req_named_9 ac_req_named_10
def l_req_named_12 : List AOp := [⟨(some 15), .bin .eql (.t 9) (.k (.int .i64 1)), none, none, [], none⟩,
  ⟨(some 14), .mv (.t 15), none, none, [], none⟩]
def ac_req_named_12 : AC := .reg l_req_named_12
def l_req_named_13 : List AOp := [⟨(some 16), .bin .eql (.t 9) (.k (.int .i64 2)), none, none, [], none⟩,
  ⟨(some 14), .mv (.t 16), none, none, [], none⟩]
def ac_req_named_13 : AC := .reg l_req_named_13
def ac_req_named_14 : AC := .cond (.t 14) .skip ac_req_named_13
def ac_req_named_15 : AC := .seq ac_req_named_12 ac_req_named_14
def ac_req_named_16 : AC := .cond (.t 14) (.exit 2) .skip
def ac_req_named_17 : AC := .seq ac_req_named_15 ac_req_named_16
def l_req_named_18 : List AOp := [⟨(some 18), .bin .eql (.t 9) (.k (.int .i64 3)), none, none, [], none⟩,
  ⟨(some 17), .mv (.t 18), none, none, [], none⟩]
def ac_req_named_18 : AC := .reg l_req_named_18
def l_req_named_19 : List AOp := [⟨(some 19), .bin .eql (.t 9) (.k (.int .i64 9)), none, none, [], none⟩,
  ⟨(some 17), .mv (.t 19), none, none, [], none⟩]
def ac_req_named_19 : AC := .reg l_req_named_19
def ac_req_named_20 : AC := .cond (.t 17) .skip ac_req_named_19
def ac_req_named_21 : AC := .seq ac_req_named_18 ac_req_named_20
def ac_req_named_22 : AC := .cond (.t 17) (.exit 3) .skip
def ac_req_named_23 : AC := .seq ac_req_named_21 ac_req_named_22
def l_req_named_24 : List AOp := [⟨(some 21), .bin .eql (.t 9) (.k (.int .i64 8)), none, none, [], none⟩,
  ⟨(some 20), .mv (.t 21), none, none, [], none⟩]
def ac_req_named_24 : AC := .reg l_req_named_24
def l_req_named_25 : List AOp := [⟨(some 22), .bin .eql (.t 9) (.k (.int .i64 10)), none, none, [], none⟩,
  ⟨(some 20), .mv (.t 22), none, none, [], none⟩]
def ac_req_named_25 : AC := .reg l_req_named_25
def ac_req_named_26 : AC := .cond (.t 20) .skip ac_req_named_25
def ac_req_named_27 : AC := .seq ac_req_named_24 ac_req_named_26
def ac_req_named_28 : AC := .cond (.t 20) (.exit 4) .skip
def ac_req_named_29 : AC := .seq ac_req_named_27 ac_req_named_28
def l_req_named_30 : List AOp := [⟨(some 24), .bin .eql (.t 9) (.k (.int .i64 4)), none, none, [], none⟩,
  ⟨(some 23), .mv (.t 24), none, none, [], none⟩]
def ac_req_named_30 : AC := .reg l_req_named_30
def ac_req_named_31 : AC := .cond (.t 23) (.exit 5) .skip
def ac_req_named_32 : AC := .seq ac_req_named_30 ac_req_named_31
def ac_req_named_33 : AC := .seq ac_req_named_29 ac_req_named_32
def ac_req_named_34 : AC := .seq ac_req_named_23 ac_req_named_33
def ac_req_named_35 : AC := .seq ac_req_named_17 ac_req_named_34
def ac_req_named_36 : AC := .seq ac_req_named_11 ac_req_named_35
def ac_req_named_37 : AC := .seq ac_req_named_36 (.exit 0)
def ac_req_named_38 : AC := .block 1 ac_req_named_37
def l_req_named_39 : List AOp := [⟨(some 25), .faddr 2 (.t 1), none, none, [], none⟩,
  ⟨(some 26), .load none (.t 25), none, none, [], none⟩,
  ⟨(some 27), .faddr 2 (.t 4), none, none, [], none⟩,
  ⟨none, .store 1 (.t 27) (.t 26), none, none, [], none⟩]
def ac_req_named_39 : AC := .reg l_req_named_39
def ac_req_named_40 : AC := .seq ac_req_named_38 ac_req_named_39
def ac_req_named_41 : AC := .block 2 ac_req_named_40
def l_req_named_42 : List AOp := [⟨(some 28), .faddr 3 (.t 1), none, none, [], none⟩,
  ⟨(some 29), .load none (.t 28), none, none, [], none⟩,
  ⟨(some 30), .faddr 3 (.t 4), none, none, [], none⟩,
  ⟨none, .store 1 (.t 30) (.t 29), none, none, [], none⟩]
def ac_req_named_42 : AC := .reg l_req_named_42
def ac_req_named_43 : AC := .seq ac_req_named_41 ac_req_named_42
def ac_req_named_44 : AC := .block 3 ac_req_named_43
def l_req_named_45 : List AOp := [⟨(some 31), .faddr 1 (.t 1), none, none, [], none⟩,
  ⟨(some 32), .load none (.t 31), none, none, [], none⟩,
  ⟨(some 33), .faddr 1 (.t 4), none, none, [], none⟩,
  ⟨none, .store 1 (.t 33) (.t 32), none, none, [], none⟩]
def ac_req_named_45 : AC := .reg l_req_named_45
def ac_req_named_46 : AC := .seq ac_req_named_44 ac_req_named_45
def ac_req_named_47 : AC := .block 4 ac_req_named_46
def l_req_named_48 : List AOp := [⟨(some 34), .load (some 5) (.t 4), none, none, [], none⟩,
  ⟨none, .store 5 (.t 2) (.t 34), none, none, [], none⟩,
  ⟨(some 3), .mv (.k (.bool true)), none, none, [], none⟩]
def ac_req_named_48 : AC := .reg l_req_named_48
def ac_req_named_49 : AC := .seq ac_req_named_48 .ret
def ac_req_named_50 : AC := .seq ac_req_named_49 (.exit 0)
def ac_req_named_51 : AC := .seq ac_req_named_47 ac_req_named_50
def ac_req_named_52 : AC := .block 5 ac_req_named_51
def l_req_named_53 : List AOp := [⟨(some 35), .faddr 1 (.t 1), none, none, [], none⟩,
  ⟨(some 36), .load none (.t 35), none, none, [1000004], none⟩,
  ⟨(some 37), .faddr 2 (.t 1), none, none, [], none⟩,
  ⟨(some 38), .load none (.t 37), none, none, [1000004], none⟩,
  ⟨(some 39), .faddr 4 (.t 1), none, none, [], none⟩,
  ⟨(some 40), .load none (.t 39), none, none, [1000004], none⟩,
  ⟨(some 41), .faddr 1 (.t 4), none, none, [], none⟩,
  ⟨none, .store 1 (.t 41) (.t 36), none, none, [], (some 1000004)⟩,
  ⟨(some 42), .faddr 2 (.t 4), none, none, [], none⟩,
  ⟨none, .store 1 (.t 42) (.t 38), none, none, [], (some 1000004)⟩,
  ⟨(some 43), .faddr 4 (.t 4), none, none, [], none⟩,
  ⟨none, .store 1 (.t 43) (.t 40), none, none, [], none⟩]
def ac_req_named_53 : AC := .dreg 0 l_req_named_53
def l_req_named_54 : List AOp := [⟨(some 44), .load (some 5) (.t 4), none, none, [], none⟩,
  ⟨none, .store 5 (.t 2) (.t 44), none, none, [], none⟩,
  ⟨(some 3), .mv (.k (.bool true)), none, none, [], none⟩]
def ac_req_named_54 : AC := .reg l_req_named_54
def ac_req_named_55 : AC := .seq ac_req_named_54 .ret
def ac_req_named_56 : AC := .seq ac_req_named_53 ac_req_named_55
def ac_req_named_57 : AC := .seq ac_req_named_56 (.exit 0)
def ac_req_named_58 : AC := .seq ac_req_named_52 ac_req_named_57
def ac_req_named_59 : AC := .block 0 ac_req_named_58
def ac_req_named_60 : AC := .seq ac_req_named_2 ac_req_named_59
def l_req_named_61 : List AOp := [⟨(some 45), .build [(.int .i64 0), (.int .i64 0), (.int .i64 0), (.int .i64 0), (.str [])] [], none, none, [], none⟩,
  ⟨none, .store 5 (.t 2) (.t 45), none, none, [], none⟩,
  ⟨(some 3), .mv (.k (.bool false)), none, none, [], none⟩]
def ac_req_named_61 : AC := .reg l_req_named_61
def ac_req_named_62 : AC := .seq ac_req_named_61 .ret
def ac_req_named_63 : AC := .seq ac_req_named_60 ac_req_named_62
def ac_req_named_64 : AC := .seq ac_req_named_1 ac_req_named_63
def ac_req_named_65 : AC := .seq ac_req_named_0 ac_req_named_64
def ac_req_named : AC := ac_req_named_65
theorem comp_req_named : compF Try.prog [] (drawR Try.prog [] Try.f22.ntmps) [] 1 Try.f22 = some (ac_req_named, [.c 2 (some 5), .t 3]) := by kernel_rfl
def U_req_named := (And.intro (And.intro (And.intro (And.intro (And.intro (And.intro (And.intro @ac_req_named.eq_1 (@mR _ _ ac_req_named_0.eq_1)) (@mR _ _ ac_req_named_1.eq_1)) (And.intro (And.intro (@mR _ _ ac_req_named_2.eq_1) (@mR _ _ ac_req_named_3.eq_1)) (@mR _ _ ac_req_named_4.eq_1))) (And.intro (And.intro (And.intro (@mR _ _ ac_req_named_5.eq_1) (@mU _ _ ac_req_named_6.eq_1)) (@mU _ _ ac_req_named_7.eq_1)) (And.intro (@mU _ _ ac_req_named_8.eq_1) (@mU _ _ ac_req_named_9.eq_1)))) (And.intro (And.intro (And.intro (And.intro (@mU _ _ ac_req_named_10.eq_1) (@mU _ _ ac_req_named_11.eq_1)) (@mR _ _ ac_req_named_12.eq_1)) (And.intro (And.intro (@mR _ _ ac_req_named_13.eq_1) (@mU _ _ ac_req_named_14.eq_1)) (@mU _ _ ac_req_named_15.eq_1))) (And.intro (And.intro (And.intro (@mU _ _ ac_req_named_16.eq_1) (@mU _ _ ac_req_named_17.eq_1)) (@mR _ _ ac_req_named_18.eq_1)) (And.intro (@mR _ _ ac_req_named_19.eq_1) (@mU _ _ ac_req_named_20.eq_1))))) (And.intro (And.intro (And.intro (And.intro (And.intro (@mU _ _ ac_req_named_21.eq_1) (@mU _ _ ac_req_named_22.eq_1)) (@mU _ _ ac_req_named_23.eq_1)) (And.intro (And.intro (@mR _ _ ac_req_named_24.eq_1) (@mR _ _ ac_req_named_25.eq_1)) (@mU _ _ ac_req_named_26.eq_1))) (And.intro (And.intro (And.intro (@mU _ _ ac_req_named_27.eq_1) (@mU _ _ ac_req_named_28.eq_1)) (@mU _ _ ac_req_named_29.eq_1)) (And.intro (@mR _ _ ac_req_named_30.eq_1) (@mU _ _ ac_req_named_31.eq_1)))) (And.intro (And.intro (And.intro (And.intro (@mU _ _ ac_req_named_32.eq_1) (@mU _ _ ac_req_named_33.eq_1)) (@mU _ _ ac_req_named_34.eq_1)) (And.intro (And.intro (@mU _ _ ac_req_named_35.eq_1) (@mU _ _ ac_req_named_36.eq_1)) (@mU _ _ ac_req_named_37.eq_1))) (And.intro (And.intro (And.intro (@mU _ _ ac_req_named_38.eq_1) (@mR _ _ ac_req_named_39.eq_1)) (@mU _ _ ac_req_named_40.eq_1)) (And.intro (@mU _ _ ac_req_named_41.eq_1) (@mR _ _ ac_req_named_42.eq_1)))))) (And.intro (And.intro (And.intro (And.intro (And.intro (And.intro (@mU _ _ ac_req_named_43.eq_1) (@mU _ _ ac_req_named_44.eq_1)) (@mR _ _ ac_req_named_45.eq_1)) (And.intro (And.intro (@mU _ _ ac_req_named_46.eq_1) (@mU _ _ ac_req_named_47.eq_1)) (@mR _ _ ac_req_named_48.eq_1))) (And.intro (And.intro (And.intro (@mU _ _ ac_req_named_49.eq_1) (@mU _ _ ac_req_named_50.eq_1)) (@mU _ _ ac_req_named_51.eq_1)) (And.intro (@mU _ _ ac_req_named_52.eq_1) (@mD _ _ _ ac_req_named_53.eq_1)))) (And.intro (And.intro (And.intro (And.intro (@mR _ _ ac_req_named_54.eq_1) (@mU _ _ ac_req_named_55.eq_1)) (@mU _ _ ac_req_named_56.eq_1)) (And.intro (And.intro (@mU _ _ ac_req_named_57.eq_1) (@mU _ _ ac_req_named_58.eq_1)) (@mU _ _ ac_req_named_59.eq_1))) (And.intro (And.intro (And.intro (@mU _ _ ac_req_named_60.eq_1) (@mR _ _ ac_req_named_61.eq_1)) (@mU _ _ ac_req_named_62.eq_1)) (And.intro (@mU _ _ ac_req_named_63.eq_1) (@mU _ _ ac_req_named_64.eq_1))))) (And.intro (And.intro (And.intro (And.intro (And.intro (@mU _ _ ac_req_named_65.eq_1) @l_req_named_0.eq_1) @l_req_named_1.eq_1) (And.intro (And.intro @l_req_named_2.eq_1 @l_req_named_3.eq_1) @l_req_named_4.eq_1)) (And.intro (And.intro (And.intro @l_req_named_5.eq_1 @l_req_named_12.eq_1) @l_req_named_13.eq_1) (And.intro @l_req_named_18.eq_1 @l_req_named_19.eq_1))) (And.intro (And.intro (And.intro (And.intro @l_req_named_24.eq_1 @l_req_named_25.eq_1) @l_req_named_30.eq_1) (And.intro @l_req_named_39.eq_1 @l_req_named_42.eq_1)) (And.intro (And.intro (And.intro @l_req_named_45.eq_1 @l_req_named_48.eq_1) @l_req_named_53.eq_1) (And.intro @l_req_named_54.eq_1 @l_req_named_61.eq_1))))))

/- scoria/req.small -/
def l_req_small_0 : List AOp := [⟨(some 2), .mv (.k (.bool false)), none, none, [], none⟩]
def ac_req_small_0 : AC := .reg l_req_small_0
def l_req_small_1 : List AOp := [⟨(some 5), .mv (.t 0), none, none, [], none⟩,
  ⟨(some 6), .len (.t 5), none, none, [], none⟩,
  ⟨(some 7), .mv (.k (.int .i64 0)), none, none, [], none⟩]
def ac_req_small_1 : AC := .reg l_req_small_1
def l_req_small_2 : List AOp := [⟨(some 8), .bin .lss (.t 7) (.t 6), none, none, [], none⟩]
def ac_req_small_2 : AC := .reg l_req_small_2
def ac_req_small_3 : AC := .cond (.t 8) .skip (.exit 0)
def l_req_small_4 : List AOp := [⟨(some 9), .isl 1 (.t 5) (.t 7), none, none, [], none⟩,
  ⟨(some 10), .load none (.t 9), none, none, [], none⟩,
  ⟨(some 4), .mv (.t 10), none, none, [], none⟩]
def ac_req_small_4 : AC := .reg l_req_small_4
def l_req_small_5 : List AOp := [⟨(some 11), .mv (.t 4), none, none, [], none⟩,
  ⟨(some 12), .bin .lss (.t 11) (.k (.int .i64 0)), none, none, [], none⟩,
  ⟨(some 13), .mv (.t 12), none, none, [], none⟩,
  ⟨(some 14), .mv (.t 4), (some (13, false)), none, [], none⟩,
  ⟨(some 15), .bin .gtr (.t 14) (.k (.int .i64 4294967295)), (some (13, false)), none, [], none⟩,
  ⟨(some 16), .pick (.t 13) (.k (.bool true)) (.t 15), none, none, [], none⟩]
def ac_req_small_5 : AC := .reg l_req_small_5
def l_req_small_6 : List AOp := [⟨(some 2), .mv (.k (.bool false)), none, none, [], none⟩]
def ac_req_small_6 : AC := .reg l_req_small_6
def ac_req_small_7 : AC := .seq ac_req_small_6 .ret
def ac_req_small_8 : AC := .cond (.t 16) ac_req_small_7 .skip
def ac_req_small_9 : AC := .seq ac_req_small_5 ac_req_small_8
def ac_req_small_10 : AC := .seq ac_req_small_4 ac_req_small_9
def ac_req_small_11 : AC := .block 1 ac_req_small_10
def l_req_small_12 : List AOp := [⟨(some 17), .bin .add (.t 7) (.k (.int .i64 1)), none, none, [], none⟩,
  ⟨(some 7), .mv (.t 17), none, none, [], none⟩]
def ac_req_small_12 : AC := .reg l_req_small_12
def ac_req_small_13 : AC := .seq ac_req_small_11 ac_req_small_12
def ac_req_small_14 : AC := .seq ac_req_small_3 ac_req_small_13
def ac_req_small_15 : AC := .seq ac_req_small_2 ac_req_small_14
def ac_req_small_16 : AC := .loop [5, 6, 7] 0 ac_req_small_15
def ac_req_small_17 : AC := .block 0 ac_req_small_16
def ac_req_small_18 : AC := .seq ac_req_small_1 ac_req_small_17
def l_req_small_19 : List AOp := [⟨(some 2), .mv (.k (.bool true)), none, none, [], none⟩]
def ac_req_small_19 : AC := .reg l_req_small_19
def ac_req_small_20 : AC := .seq ac_req_small_19 .ret
def ac_req_small_21 : AC := .seq ac_req_small_18 ac_req_small_20
def ac_req_small_22 : AC := .seq ac_req_small_0 ac_req_small_21
def ac_req_small : AC := ac_req_small_22
theorem comp_req_small : compF Try.prog [] (drawR Try.prog [] Try.f23.ntmps) [([5, 6, 7], 0)] 1 Try.f23 = some (ac_req_small, [.t 2]) := by kernel_rfl
def U_req_small := (And.intro (And.intro (And.intro (And.intro (And.intro @ac_req_small.eq_1 (@mR _ _ ac_req_small_0.eq_1)) (And.intro (@mR _ _ ac_req_small_1.eq_1) (@mR _ _ ac_req_small_2.eq_1))) (And.intro (And.intro (@mU _ _ ac_req_small_3.eq_1) (@mR _ _ ac_req_small_4.eq_1)) (And.intro (@mR _ _ ac_req_small_5.eq_1) (@mR _ _ ac_req_small_6.eq_1)))) (And.intro (And.intro (And.intro (@mU _ _ ac_req_small_7.eq_1) (@mU _ _ ac_req_small_8.eq_1)) (And.intro (@mU _ _ ac_req_small_9.eq_1) (@mU _ _ ac_req_small_10.eq_1))) (And.intro (And.intro (@mU _ _ ac_req_small_11.eq_1) (@mR _ _ ac_req_small_12.eq_1)) (And.intro (@mU _ _ ac_req_small_13.eq_1) (@mU _ _ ac_req_small_14.eq_1))))) (And.intro (And.intro (And.intro (And.intro (@mU _ _ ac_req_small_15.eq_1) (@mU _ _ ac_req_small_16.eq_1)) (And.intro (@mU _ _ ac_req_small_17.eq_1) (@mU _ _ ac_req_small_18.eq_1))) (And.intro (And.intro (@mR _ _ ac_req_small_19.eq_1) (@mU _ _ ac_req_small_20.eq_1)) (And.intro (@mU _ _ ac_req_small_21.eq_1) (@mU _ _ ac_req_small_22.eq_1)))) (And.intro (And.intro (And.intro @l_req_small_0.eq_1 @l_req_small_1.eq_1) (And.intro @l_req_small_2.eq_1 @l_req_small_4.eq_1)) (And.intro (And.intro @l_req_small_5.eq_1 @l_req_small_6.eq_1) (And.intro @l_req_small_12.eq_1 @l_req_small_19.eq_1)))))

/- scoria/field.Row -/
def l_field_Row_0 : List AOp := [⟨(some 4), .mv (.k (.str [])), none, none, [], none⟩,
  ⟨(some 5), .mv (.k (.int .i64 0)), none, none, [], none⟩]
def ac_field_Row_0 : AC := .reg l_field_Row_0
def l_field_Row_1 : List AOp := [⟨(some 9), .mv (.t 0), none, none, [], none⟩,
  ⟨(some 10), .len (.t 9), none, none, [], none⟩,
  ⟨(some 11), .mv (.t 1), none, none, [], none⟩,
  ⟨(some 12), .len (.t 11), none, none, [], none⟩,
  ⟨(some 13), .bin .neq (.t 10) (.t 12), none, none, [], none⟩,
  ⟨(some 14), .mv (.t 13), none, none, [], none⟩,
  ⟨(some 15), .mv (.t 1), (some (14, false)), none, [], none⟩,
  ⟨(some 16), .call false 39 [(.t 15), (.k (.fn (.func 40) [] []))], (some (14, false)), none, [], none⟩,
  ⟨(some 17), .pick (.t 14) (.k (.bool true)) (.t 16), none, none, [], none⟩]
def ac_field_Row_1 : AC := .reg l_field_Row_1
def l_field_Row_2 : List AOp := [⟨(some 4), .mv (.k (.str [])), none, none, [], none⟩,
  ⟨(some 5), .mv (.k (.int .i64 1)), none, none, [], none⟩]
def ac_field_Row_2 : AC := .reg l_field_Row_2
def ac_field_Row_3 : AC := .seq ac_field_Row_2 .ret
def ac_field_Row_4 : AC := .cond (.t 17) ac_field_Row_3 .skip
def ac_field_Row_5 : AC := .seq ac_field_Row_1 ac_field_Row_4
def l_field_Row_6 : List AOp := [⟨(some 6), .balloc 82 5, none, none, [], none⟩]
def ac_field_Row_6 : AC := .reg l_field_Row_6
def l_field_Row_7 : List AOp := [⟨(some 18), .mv (.t 0), none, none, [], none⟩,
  ⟨(some 19), .len (.t 18), none, none, [], none⟩,
  ⟨(some 20), .mv (.k (.int .i64 0)), none, none, [], none⟩]
def ac_field_Row_7 : AC := .reg l_field_Row_7
def l_field_Row_8 : List AOp := [⟨(some 21), .bin .lss (.t 20) (.t 19), none, none, [], none⟩]
def ac_field_Row_8 : AC := .reg l_field_Row_8
def ac_field_Row_9 : AC := .cond (.t 21) .skip (.exit 0)
def l_field_Row_10 : List AOp := [⟨(some 22), .mv (.t 20), none, none, [], none⟩,
  ⟨(some 23), .isl 1 (.t 18) (.t 20), none, none, [], none⟩,
  ⟨(some 24), .load none (.t 23), none, none, [], none⟩,
  ⟨(some 7), .mv (.t 22), none, none, [], none⟩,
  ⟨(some 8), .mv (.t 24), none, none, [], none⟩]
def ac_field_Row_10 : AC := .reg l_field_Row_10
def l_field_Row_11 : List AOp := [⟨(some 25), .mv (.t 8), none, none, [], none⟩,
  ⟨(some 26), .mv (.t 1), none, none, [], none⟩,
  ⟨(some 27), .mv (.t 7), none, none, [], none⟩,
  ⟨(some 28), .isl 1 (.t 26) (.t 27), none, none, [], none⟩,
  ⟨(some 29), .load none (.t 28), none, none, [], none⟩,
  ⟨(some 30), .call false 41 [(.t 25), (.t 29)], none, none, [], none⟩,
  ⟨(some 31), .un .not (.t 30), none, none, [], none⟩]
def ac_field_Row_11 : AC := .reg l_field_Row_11
def l_field_Row_12 : List AOp := [⟨(some 4), .mv (.k (.str [])), none, none, [], none⟩,
  ⟨(some 5), .mv (.k (.int .i64 2)), none, none, [], none⟩]
def ac_field_Row_12 : AC := .reg l_field_Row_12
def ac_field_Row_13 : AC := .seq ac_field_Row_12 .ret
def ac_field_Row_14 : AC := .cond (.t 31) ac_field_Row_13 .skip
def ac_field_Row_15 : AC := .seq ac_field_Row_11 ac_field_Row_14
def l_field_Row_16 : List AOp := [⟨(some 32), .mv (.t 8), none, none, [], none⟩,
  ⟨(some 33), .mv (.t 1), none, none, [], none⟩,
  ⟨(some 34), .mv (.t 7), none, none, [], none⟩,
  ⟨(some 35), .isl 1 (.t 33) (.t 34), none, none, [], none⟩,
  ⟨(some 36), .load none (.t 35), none, none, [], none⟩,
  ⟨(some 37), .call false 43 [(.t 32), (.t 36)], none, none, [], none⟩,
  ⟨(some 38), .icall 42 [(.t 6), (.t 37)], none, none, [], none⟩]
def ac_field_Row_16 : AC := .reg l_field_Row_16
def ac_field_Row_17 : AC := .seq ac_field_Row_15 ac_field_Row_16
def ac_field_Row_18 : AC := .seq ac_field_Row_10 ac_field_Row_17
def ac_field_Row_19 : AC := .block 1 ac_field_Row_18
def l_field_Row_20 : List AOp := [⟨(some 39), .bin .add (.t 20) (.k (.int .i64 1)), none, none, [], none⟩,
  ⟨(some 20), .mv (.t 39), none, none, [], none⟩]
def ac_field_Row_20 : AC := .reg l_field_Row_20
def ac_field_Row_21 : AC := .seq ac_field_Row_19 ac_field_Row_20
def ac_field_Row_22 : AC := .seq ac_field_Row_9 ac_field_Row_21
def ac_field_Row_23 : AC := .seq ac_field_Row_8 ac_field_Row_22
def ac_field_Row_24 : AC := .loop [1, 6, 18, 19, 20] 2 ac_field_Row_23
def ac_field_Row_25 : AC := .block 0 ac_field_Row_24
def ac_field_Row_26 : AC := .seq ac_field_Row_7 ac_field_Row_25
def l_field_Row_27 : List AOp := [⟨(some 40), .icall 44 [(.t 6)], none, none, [], none⟩,
  ⟨(some 4), .mv (.t 40), none, none, [], none⟩,
  ⟨(some 5), .mv (.k (.int .i64 0)), none, none, [], none⟩]
def ac_field_Row_27 : AC := .reg l_field_Row_27
def ac_field_Row_28 : AC := .seq ac_field_Row_27 .ret
def ac_field_Row_29 : AC := .seq ac_field_Row_26 ac_field_Row_28
def ac_field_Row_30 : AC := .seq ac_field_Row_6 ac_field_Row_29
def ac_field_Row_31 : AC := .seq ac_field_Row_5 ac_field_Row_30
def ac_field_Row_32 : AC := .seq ac_field_Row_0 ac_field_Row_31
def ac_field_Row : AC := ac_field_Row_32
theorem comp_field_Row : compF Try.prog [6, 1000042, 1000044] (drawR Try.prog [6, 1000042, 1000044] Try.f24.ntmps) [([1, 6, 18, 19, 20], 2)] 2 Try.f24 = some (ac_field_Row, [.t 4, .t 5]) := by kernel_rfl
def U_field_Row := (And.intro (And.intro (And.intro (And.intro (And.intro (And.intro @ac_field_Row.eq_1 (@mR _ _ ac_field_Row_0.eq_1)) (@mR _ _ ac_field_Row_1.eq_1)) (And.intro (And.intro (@mR _ _ ac_field_Row_2.eq_1) (@mU _ _ ac_field_Row_3.eq_1)) (@mU _ _ ac_field_Row_4.eq_1))) (And.intro (And.intro (And.intro (@mU _ _ ac_field_Row_5.eq_1) (@mR _ _ ac_field_Row_6.eq_1)) (@mR _ _ ac_field_Row_7.eq_1)) (And.intro (And.intro (@mR _ _ ac_field_Row_8.eq_1) (@mU _ _ ac_field_Row_9.eq_1)) (@mR _ _ ac_field_Row_10.eq_1)))) (And.intro (And.intro (And.intro (And.intro (@mR _ _ ac_field_Row_11.eq_1) (@mR _ _ ac_field_Row_12.eq_1)) (@mU _ _ ac_field_Row_13.eq_1)) (And.intro (And.intro (@mU _ _ ac_field_Row_14.eq_1) (@mU _ _ ac_field_Row_15.eq_1)) (@mR _ _ ac_field_Row_16.eq_1))) (And.intro (And.intro (And.intro (@mU _ _ ac_field_Row_17.eq_1) (@mU _ _ ac_field_Row_18.eq_1)) (@mU _ _ ac_field_Row_19.eq_1)) (And.intro (@mR _ _ ac_field_Row_20.eq_1) (@mU _ _ ac_field_Row_21.eq_1))))) (And.intro (And.intro (And.intro (And.intro (And.intro (@mU _ _ ac_field_Row_22.eq_1) (@mU _ _ ac_field_Row_23.eq_1)) (@mU _ _ ac_field_Row_24.eq_1)) (And.intro (And.intro (@mU _ _ ac_field_Row_25.eq_1) (@mU _ _ ac_field_Row_26.eq_1)) (@mR _ _ ac_field_Row_27.eq_1))) (And.intro (And.intro (And.intro (@mU _ _ ac_field_Row_28.eq_1) (@mU _ _ ac_field_Row_29.eq_1)) (@mU _ _ ac_field_Row_30.eq_1)) (And.intro (And.intro (@mU _ _ ac_field_Row_31.eq_1) (@mU _ _ ac_field_Row_32.eq_1)) @l_field_Row_0.eq_1))) (And.intro (And.intro (And.intro (And.intro @l_field_Row_1.eq_1 @l_field_Row_2.eq_1) @l_field_Row_6.eq_1) (And.intro (And.intro @l_field_Row_7.eq_1 @l_field_Row_8.eq_1) @l_field_Row_10.eq_1)) (And.intro (And.intro (And.intro @l_field_Row_11.eq_1 @l_field_Row_12.eq_1) @l_field_Row_16.eq_1) (And.intro @l_field_Row_20.eq_1 @l_field_Row_27.eq_1)))))

/- scoria/req.numbers -/
def l_req_numbers_0 : List AOp := [⟨(some 2), .mv (.k (.slc [])), none, none, [], none⟩]
def ac_req_numbers_0 : AC := .reg l_req_numbers_0
def l_req_numbers_1 : List AOp := [⟨(some 3), .nilown 1, none, none, [], none⟩]
def ac_req_numbers_1 : AC := .reg l_req_numbers_1
def l_req_numbers_2 : List AOp := [⟨(some 6), .mv (.t 0), none, none, [], none⟩,
  ⟨(some 7), .len (.t 6), none, none, [], none⟩,
  ⟨(some 8), .mv (.k (.int .i64 0)), none, none, [], none⟩]
def ac_req_numbers_2 : AC := .reg l_req_numbers_2
def l_req_numbers_3 : List AOp := [⟨(some 9), .bin .lss (.t 8) (.t 7), none, none, [], none⟩]
def ac_req_numbers_3 : AC := .reg l_req_numbers_3
def ac_req_numbers_4 : AC := .cond (.t 9) .skip (.exit 0)
def l_req_numbers_5 : List AOp := [⟨(some 10), .isl 1 (.t 6) (.t 8), none, none, [], none⟩,
  ⟨(some 11), .load none (.t 10), none, none, [], none⟩,
  ⟨(some 5), .mv (.t 11), none, none, [], none⟩]
def ac_req_numbers_5 : AC := .reg l_req_numbers_5
def l_req_numbers_6 : List AOp := [⟨(some 12), .mv (.t 3), none, none, [], none⟩,
  ⟨(some 13), .mv (.t 5), none, none, [], none⟩,
  ⟨(some 14), .conv .u64 (.t 13), none, none, [], none⟩,
  ⟨(some 15), .blds false [(.int .u64 0)] 1 [(0, (.t 14))], none, none, [], none⟩,
  ⟨(some 16), .app 1 8 [(.int .u64 0)] (.t 12) (.t 15), none, none, [], none⟩,
  ⟨(some 3), .mv (.t 16), none, none, [], none⟩]
def ac_req_numbers_6 : AC := .reg l_req_numbers_6
def ac_req_numbers_7 : AC := .seq ac_req_numbers_5 ac_req_numbers_6
def ac_req_numbers_8 : AC := .block 1 ac_req_numbers_7
def l_req_numbers_9 : List AOp := [⟨(some 17), .bin .add (.t 8) (.k (.int .i64 1)), none, none, [], none⟩,
  ⟨(some 8), .mv (.t 17), none, none, [], none⟩]
def ac_req_numbers_9 : AC := .reg l_req_numbers_9
def ac_req_numbers_10 : AC := .seq ac_req_numbers_8 ac_req_numbers_9
def ac_req_numbers_11 : AC := .seq ac_req_numbers_4 ac_req_numbers_10
def ac_req_numbers_12 : AC := .seq ac_req_numbers_3 ac_req_numbers_11
def ac_req_numbers_13 : AC := .loop [3, 6, 7, 8] 1 ac_req_numbers_12
def ac_req_numbers_14 : AC := .block 0 ac_req_numbers_13
def ac_req_numbers_15 : AC := .seq ac_req_numbers_2 ac_req_numbers_14
def l_req_numbers_16 : List AOp := [⟨(some 18), .mv (.t 3), none, none, [], none⟩,
  ⟨(some 2), .mv (.t 18), none, none, [], none⟩]
def ac_req_numbers_16 : AC := .reg l_req_numbers_16
def ac_req_numbers_17 : AC := .seq ac_req_numbers_16 .ret
def ac_req_numbers_18 : AC := .seq ac_req_numbers_15 ac_req_numbers_17
def ac_req_numbers_19 : AC := .seq ac_req_numbers_1 ac_req_numbers_18
def ac_req_numbers_20 : AC := .seq ac_req_numbers_0 ac_req_numbers_19
def ac_req_numbers : AC := ac_req_numbers_20
theorem comp_req_numbers : compF Try.prog [3] (drawR Try.prog [3] Try.f25.ntmps) [([3, 6, 7, 8], 1)] 1 Try.f25 = some (ac_req_numbers, [.t 2]) := by kernel_rfl
def U_req_numbers := (And.intro (And.intro (And.intro (And.intro (And.intro @ac_req_numbers.eq_1 (@mR _ _ ac_req_numbers_0.eq_1)) (And.intro (@mR _ _ ac_req_numbers_1.eq_1) (@mR _ _ ac_req_numbers_2.eq_1))) (And.intro (And.intro (@mR _ _ ac_req_numbers_3.eq_1) (@mU _ _ ac_req_numbers_4.eq_1)) (And.intro (@mR _ _ ac_req_numbers_5.eq_1) (@mR _ _ ac_req_numbers_6.eq_1)))) (And.intro (And.intro (And.intro (@mU _ _ ac_req_numbers_7.eq_1) (@mU _ _ ac_req_numbers_8.eq_1)) (And.intro (@mR _ _ ac_req_numbers_9.eq_1) (@mU _ _ ac_req_numbers_10.eq_1))) (And.intro (And.intro (@mU _ _ ac_req_numbers_11.eq_1) (@mU _ _ ac_req_numbers_12.eq_1)) (@mU _ _ ac_req_numbers_13.eq_1)))) (And.intro (And.intro (And.intro (And.intro (@mU _ _ ac_req_numbers_14.eq_1) (@mU _ _ ac_req_numbers_15.eq_1)) (And.intro (@mR _ _ ac_req_numbers_16.eq_1) (@mU _ _ ac_req_numbers_17.eq_1))) (And.intro (And.intro (@mU _ _ ac_req_numbers_18.eq_1) (@mU _ _ ac_req_numbers_19.eq_1)) (And.intro (@mU _ _ ac_req_numbers_20.eq_1) @l_req_numbers_0.eq_1))) (And.intro (And.intro (And.intro @l_req_numbers_1.eq_1 @l_req_numbers_2.eq_1) (And.intro @l_req_numbers_3.eq_1 @l_req_numbers_5.eq_1)) (And.intro (And.intro @l_req_numbers_6.eq_1 @l_req_numbers_9.eq_1) @l_req_numbers_16.eq_1))))

/- scoria/req.head -/
def l_req_head_0 : List AOp := [⟨(some 0), .mv (.k (.slc [])), none, none, [], none⟩]
def ac_req_head_0 : AC := .reg l_req_head_0
def l_req_head_1 : List AOp := [⟨(some 1), .blds false [(.int .i64 0)] 5 [(0, (.k (.int .i64 1))), (1, (.k (.int .i64 4))), (2, (.k (.int .i64 4))), (3, (.k (.int .i64 4))), (4, (.k (.int .i64 2)))], none, none, [], none⟩,
  ⟨(some 0), .mv (.t 1), none, none, [], none⟩]
def ac_req_head_1 : AC := .reg l_req_head_1
def ac_req_head_2 : AC := .seq ac_req_head_1 .ret
def ac_req_head_3 : AC := .seq ac_req_head_0 ac_req_head_2
def ac_req_head : AC := ac_req_head_3
theorem comp_req_head : compF Try.prog [] (drawR Try.prog [] Try.f26.ntmps) [] 0 Try.f26 = some (ac_req_head, [.t 0]) := by kernel_rfl
def U_req_head := (And.intro (And.intro (And.intro @ac_req_head.eq_1 (@mR _ _ ac_req_head_0.eq_1)) (And.intro (@mR _ _ ac_req_head_1.eq_1) (@mU _ _ ac_req_head_2.eq_1))) (And.intro (And.intro (@mU _ _ ac_req_head_3.eq_1) @l_req_head_0.eq_1) @l_req_head_1.eq_1))

/- scoria/check.Seal -/
def l_check_Seal_0 : List AOp := [⟨(some 2), .mv (.k (.str [])), none, none, [], none⟩]
def ac_check_Seal_0 : AC := .reg l_check_Seal_0
def l_check_Seal_1 : List AOp := [⟨(some 4), .mv (.t 0), none, none, [], none⟩,
  ⟨(some 5), .call false 45 [(.t 4)], none, none, [], none⟩,
  ⟨(some 3), .mv (.t 5), none, none, [], none⟩]
def ac_check_Seal_1 : AC := .reg l_check_Seal_1
def l_check_Seal_2 : List AOp := [⟨(some 6), .mv (.t 0), none, none, [], none⟩,
  ⟨(some 7), .mv (.t 3), none, none, [], none⟩,
  ⟨(some 8), .bin .shr (.t 7) (.k (.int .u64 24)), none, none, [], none⟩,
  ⟨(some 9), .conv .u8 (.t 8), none, none, [], none⟩,
  ⟨(some 10), .mv (.t 3), none, none, [], none⟩,
  ⟨(some 11), .bin .shr (.t 10) (.k (.int .u64 16)), none, none, [], none⟩,
  ⟨(some 12), .conv .u8 (.t 11), none, none, [], none⟩,
  ⟨(some 13), .mv (.t 3), none, none, [], none⟩,
  ⟨(some 14), .bin .shr (.t 13) (.k (.int .u64 8)), none, none, [], none⟩,
  ⟨(some 15), .conv .u8 (.t 14), none, none, [], none⟩,
  ⟨(some 16), .mv (.t 3), none, none, [], none⟩,
  ⟨(some 17), .conv .u8 (.t 16), none, none, [], none⟩,
  ⟨(some 18), .blds false [(.int .u8 0)] 4 [(0, (.t 9)), (1, (.t 12)), (2, (.t 15)), (3, (.t 17))], none, none, [], none⟩,
  ⟨(some 19), .b2s (.t 18), none, none, [], none⟩,
  ⟨(some 20), .bin .add (.t 6) (.t 19), none, none, [], none⟩,
  ⟨(some 2), .mv (.t 20), none, none, [], none⟩]
def ac_check_Seal_2 : AC := .reg l_check_Seal_2
def ac_check_Seal_3 : AC := .seq ac_check_Seal_2 .ret
def ac_check_Seal_4 : AC := .seq ac_check_Seal_1 ac_check_Seal_3
def ac_check_Seal_5 : AC := .seq ac_check_Seal_0 ac_check_Seal_4
def ac_check_Seal : AC := ac_check_Seal_5
theorem comp_check_Seal : compF Try.prog [] (drawR Try.prog [] Try.f27.ntmps) [] 1 Try.f27 = some (ac_check_Seal, [.t 2]) := by kernel_rfl
def U_check_Seal := (And.intro (And.intro (And.intro (And.intro @ac_check_Seal.eq_1 (@mR _ _ ac_check_Seal_0.eq_1)) (@mR _ _ ac_check_Seal_1.eq_1)) (And.intro (@mR _ _ ac_check_Seal_2.eq_1) (@mU _ _ ac_check_Seal_3.eq_1))) (And.intro (And.intro (And.intro (@mU _ _ ac_check_Seal_4.eq_1) (@mU _ _ ac_check_Seal_5.eq_1)) @l_check_Seal_0.eq_1) (And.intro @l_check_Seal_1.eq_1 @l_check_Seal_2.eq_1)))

/- scoria/scoriaref16.May -/
def l_ref16_May_0 : List AOp := [⟨(some 1), .box (.t 0), none, none, [], none⟩,
  ⟨(some 2), .mv (.k (.bool false)), none, none, [], none⟩]
def ac_ref16_May_0 : AC := .reg l_ref16_May_0
def l_ref16_May_1 : List AOp := [⟨(some 3), .faddr 0 (.t 1), none, none, [], none⟩,
  ⟨(some 4), .load none (.t 3), none, none, [], none⟩,
  ⟨(some 5), .bin .lss (.t 4) (.k (.int .i64 1)), none, none, [], none⟩,
  ⟨(some 6), .mv (.t 5), none, none, [], none⟩,
  ⟨(some 7), .faddr 0 (.t 1), (some (6, false)), none, [], none⟩,
  ⟨(some 8), .load none (.t 7), (some (6, false)), none, [], none⟩,
  ⟨(some 9), .bin .gtr (.t 8) (.k (.int .i64 10)), (some (6, false)), none, [], none⟩,
  ⟨(some 10), .pick (.t 6) (.k (.bool true)) (.t 9), none, none, [], none⟩,
  ⟨(some 11), .mv (.t 10), none, none, [], none⟩,
  ⟨(some 12), .faddr 1 (.t 1), (some (11, false)), none, [], none⟩,
  ⟨(some 13), .load none (.t 12), (some (11, false)), none, [], none⟩,
  ⟨(some 14), .call false 46 [(.t 13)], (some (11, false)), none, [], none⟩,
  ⟨(some 15), .un .not (.t 14), (some (11, false)), none, [], none⟩,
  ⟨(some 16), .pick (.t 11) (.k (.bool true)) (.t 15), none, none, [], none⟩,
  ⟨(some 17), .mv (.t 16), none, none, [], none⟩,
  ⟨(some 18), .faddr 2 (.t 1), (some (17, false)), none, [], none⟩,
  ⟨(some 19), .load none (.t 18), (some (17, false)), none, [], none⟩,
  ⟨(some 20), .call false 46 [(.t 19)], (some (17, false)), none, [], none⟩,
  ⟨(some 21), .un .not (.t 20), (some (17, false)), none, [], none⟩,
  ⟨(some 22), .pick (.t 17) (.k (.bool true)) (.t 21), none, none, [], none⟩,
  ⟨(some 23), .mv (.t 22), none, none, [], none⟩,
  ⟨(some 24), .faddr 3 (.t 1), (some (23, false)), none, [], none⟩,
  ⟨(some 25), .load none (.t 24), (some (23, false)), none, [], none⟩,
  ⟨(some 26), .call false 46 [(.t 25)], (some (23, false)), none, [], none⟩,
  ⟨(some 27), .un .not (.t 26), (some (23, false)), none, [], none⟩,
  ⟨(some 28), .pick (.t 23) (.k (.bool true)) (.t 27), none, none, [], none⟩,
  ⟨(some 29), .mv (.t 28), none, none, [], none⟩,
  ⟨(some 30), .faddr 4 (.t 1), (some (29, false)), none, [], none⟩,
  ⟨(some 31), .load none (.t 30), (some (29, false)), none, [], none⟩,
  ⟨(some 32), .lens (.t 31), (some (29, false)), none, [], none⟩,
  ⟨(some 33), .bin .gtr (.t 32) (.k (.int .i64 512)), (some (29, false)), none, [], none⟩,
  ⟨(some 34), .pick (.t 29) (.k (.bool true)) (.t 33), none, none, [], none⟩]
def ac_ref16_May_1 : AC := .reg l_ref16_May_1
def l_ref16_May_2 : List AOp := [⟨(some 2), .mv (.k (.bool false)), none, none, [], none⟩]
def ac_ref16_May_2 : AC := .reg l_ref16_May_2
def ac_ref16_May_3 : AC := .seq ac_ref16_May_2 .ret
def ac_ref16_May_4 : AC := .cond (.t 34) ac_ref16_May_3 .skip
def ac_ref16_May_5 : AC := .seq ac_ref16_May_1 ac_ref16_May_4
def l_ref16_May_6 : List AOp := [⟨(some 35), .faddr 4 (.t 1), none, none, [], none⟩,
  ⟨(some 36), .load none (.t 35), none, none, [], none⟩,
  ⟨(some 37), .bin .neq (.t 36) (.k (.str [])), none, none, [], none⟩,
  ⟨(some 38), .mv (.t 37), none, none, [], none⟩,
  ⟨(some 39), .faddr 0 (.t 1), (some (38, true)), none, [], none⟩,
  ⟨(some 40), .load none (.t 39), (some (38, true)), none, [], none⟩,
  ⟨(some 41), .bin .neq (.t 40) (.k (.int .i64 4)), (some (38, true)), none, [], none⟩,
  ⟨(some 42), .pick (.t 38) (.t 41) (.k (.bool false)), none, none, [], none⟩,
  ⟨(some 43), .mv (.t 42), none, none, [], none⟩,
  ⟨(some 44), .faddr 2 (.t 1), (some (43, false)), none, [], none⟩,
  ⟨(some 45), .load none (.t 44), (some (43, false)), none, [], none⟩,
  ⟨(some 46), .bin .neq (.t 45) (.k (.int .i64 0)), (some (43, false)), none, [], none⟩,
  ⟨(some 47), .mv (.t 46), (some (43, false)), none, [], none⟩,
  ⟨(some 48), .faddr 0 (.t 1), (some (47, true)), none, [], none⟩,
  ⟨(some 49), .load none (.t 48), (some (47, true)), none, [], none⟩,
  ⟨(some 50), .bin .lss (.t 49) (.k (.int .i64 4)), (some (47, true)), none, [], none⟩,
  ⟨(some 51), .mv (.t 50), (some (47, true)), none, [], none⟩,
  ⟨(some 52), .faddr 0 (.t 1), (some (51, false)), none, [], none⟩,
  ⟨(some 53), .load none (.t 52), (some (51, false)), none, [], none⟩,
  ⟨(some 54), .bin .gtr (.t 53) (.k (.int .i64 7)), (some (51, false)), none, [], none⟩,
  ⟨(some 55), .pick (.t 51) (.k (.bool true)) (.t 54), (some (47, true)), none, [], none⟩,
  ⟨(some 56), .pick (.t 47) (.t 55) (.k (.bool false)), (some (43, false)), none, [], none⟩,
  ⟨(some 57), .pick (.t 43) (.k (.bool true)) (.t 56), none, none, [], none⟩,
  ⟨(some 58), .mv (.t 57), none, none, [], none⟩,
  ⟨(some 59), .faddr 1 (.t 1), (some (58, false)), none, [], none⟩,
  ⟨(some 60), .load none (.t 59), (some (58, false)), none, [], none⟩,
  ⟨(some 61), .bin .neq (.t 60) (.k (.int .i64 0)), (some (58, false)), none, [], none⟩,
  ⟨(some 62), .mv (.t 61), (some (58, false)), none, [], none⟩,
  ⟨(some 63), .faddr 0 (.t 1), (some (62, true)), none, [], none⟩,
  ⟨(some 64), .load none (.t 63), (some (62, true)), none, [], none⟩,
  ⟨(some 65), .bin .eql (.t 64) (.k (.int .i64 8)), (some (62, true)), none, [], none⟩,
  ⟨(some 66), .mv (.t 65), (some (62, true)), none, [], none⟩,
  ⟨(some 67), .faddr 0 (.t 1), (some (66, false)), none, [], none⟩,
  ⟨(some 68), .load none (.t 67), (some (66, false)), none, [], none⟩,
  ⟨(some 69), .bin .eql (.t 68) (.k (.int .i64 10)), (some (66, false)), none, [], none⟩,
  ⟨(some 70), .pick (.t 66) (.k (.bool true)) (.t 69), (some (62, true)), none, [], none⟩,
  ⟨(some 71), .pick (.t 62) (.t 70) (.k (.bool false)), (some (58, false)), none, [], none⟩,
  ⟨(some 72), .pick (.t 58) (.k (.bool true)) (.t 71), none, none, [], none⟩]
def ac_ref16_May_6 : AC := .reg l_ref16_May_6
def l_ref16_May_7 : List AOp := [⟨(some 2), .mv (.k (.bool false)), none, none, [], none⟩]
def ac_ref16_May_7 : AC := .reg l_ref16_May_7
def ac_ref16_May_8 : AC := .seq ac_ref16_May_7 .ret
def ac_ref16_May_9 : AC := .cond (.t 72) ac_ref16_May_8 .skip
def ac_ref16_May_10 : AC := .seq ac_ref16_May_6 ac_ref16_May_9
def l_ref16_May_11 : List AOp := [⟨(some 73), .faddr 3 (.t 1), none, none, [], none⟩,
  ⟨(some 74), .load none (.t 73), none, none, [], none⟩,
  ⟨(some 75), .bin .eql (.t 74) (.k (.int .i64 0)), none, none, [], none⟩,
  ⟨(some 76), .mv (.t 75), none, none, [], none⟩,
  ⟨(some 77), .faddr 0 (.t 1), (some (76, false)), none, [], none⟩,
  ⟨(some 78), .load none (.t 77), (some (76, false)), none, [], none⟩,
  ⟨(some 79), .bin .eql (.t 78) (.k (.int .i64 1)), (some (76, false)), none, [], none⟩,
  ⟨(some 80), .pick (.t 76) (.k (.bool true)) (.t 79), none, none, [], none⟩,
  ⟨(some 81), .mv (.t 80), none, none, [], none⟩,
  ⟨(some 82), .faddr 0 (.t 1), (some (81, false)), none, [], none⟩,
  ⟨(some 83), .load none (.t 82), (some (81, false)), none, [], none⟩,
  ⟨(some 84), .bin .eql (.t 83) (.k (.int .i64 2)), (some (81, false)), none, [], none⟩,
  ⟨(some 85), .pick (.t 81) (.k (.bool true)) (.t 84), none, none, [], none⟩,
  ⟨(some 86), .mv (.t 85), none, none, [], none⟩,
  ⟨(some 87), .faddr 0 (.t 1), (some (86, false)), none, [], none⟩,
  ⟨(some 88), .load none (.t 87), (some (86, false)), none, [], none⟩,
  ⟨(some 89), .bin .geq (.t 88) (.k (.int .i64 5)), (some (86, false)), none, [], none⟩,
  ⟨(some 90), .mv (.t 89), (some (86, false)), none, [], none⟩,
  ⟨(some 91), .faddr 0 (.t 1), (some (90, true)), none, [], none⟩,
  ⟨(some 92), .load none (.t 91), (some (90, true)), none, [], none⟩,
  ⟨(some 93), .bin .leq (.t 92) (.k (.int .i64 7)), (some (90, true)), none, [], none⟩,
  ⟨(some 94), .pick (.t 90) (.t 93) (.k (.bool false)), (some (86, false)), none, [], none⟩,
  ⟨(some 95), .pick (.t 86) (.k (.bool true)) (.t 94), none, none, [], none⟩,
  ⟨(some 2), .mv (.t 95), none, none, [], none⟩]
def ac_ref16_May_11 : AC := .reg l_ref16_May_11
def ac_ref16_May_12 : AC := .seq ac_ref16_May_11 .ret
def ac_ref16_May_13 : AC := .seq ac_ref16_May_10 ac_ref16_May_12
def ac_ref16_May_14 : AC := .seq ac_ref16_May_5 ac_ref16_May_13
def ac_ref16_May_15 : AC := .seq ac_ref16_May_0 ac_ref16_May_14
def ac_ref16_May : AC := ac_ref16_May_15
theorem comp_ref16_May : compF Try.prog [] (drawR Try.prog [] Try.f28.ntmps) [] 1 Try.f28 = some (ac_ref16_May, [.t 2]) := by kernel_rfl
def U_ref16_May := (And.intro (And.intro (And.intro (And.intro (And.intro @ac_ref16_May.eq_1 (@mR _ _ ac_ref16_May_0.eq_1)) (@mR _ _ ac_ref16_May_1.eq_1)) (And.intro (And.intro (@mR _ _ ac_ref16_May_2.eq_1) (@mU _ _ ac_ref16_May_3.eq_1)) (@mU _ _ ac_ref16_May_4.eq_1))) (And.intro (And.intro (And.intro (@mU _ _ ac_ref16_May_5.eq_1) (@mR _ _ ac_ref16_May_6.eq_1)) (@mR _ _ ac_ref16_May_7.eq_1)) (And.intro (And.intro (@mU _ _ ac_ref16_May_8.eq_1) (@mU _ _ ac_ref16_May_9.eq_1)) (@mU _ _ ac_ref16_May_10.eq_1)))) (And.intro (And.intro (And.intro (And.intro (@mR _ _ ac_ref16_May_11.eq_1) (@mU _ _ ac_ref16_May_12.eq_1)) (@mU _ _ ac_ref16_May_13.eq_1)) (And.intro (And.intro (@mU _ _ ac_ref16_May_14.eq_1) (@mU _ _ ac_ref16_May_15.eq_1)) @l_ref16_May_0.eq_1)) (And.intro (And.intro (And.intro @l_ref16_May_1.eq_1 @l_ref16_May_2.eq_1) @l_ref16_May_6.eq_1) (And.intro @l_ref16_May_7.eq_1 @l_ref16_May_11.eq_1))))

/- scoria/scoriaref02.Seal -/
def l_ref02_Seal_0 : List AOp := [⟨(some 2), .mv (.k (.str [])), none, none, [], none⟩]
def ac_ref02_Seal_0 : AC := .reg l_ref02_Seal_0
def l_ref02_Seal_1 : List AOp := [⟨(some 4), .mv (.t 0), none, none, [], none⟩,
  ⟨(some 5), .call false 47 [(.t 4)], none, none, [], none⟩,
  ⟨(some 3), .mv (.t 5), none, none, [], none⟩]
def ac_ref02_Seal_1 : AC := .reg l_ref02_Seal_1
def l_ref02_Seal_2 : List AOp := [⟨(some 6), .mv (.t 0), none, none, [], none⟩,
  ⟨(some 7), .mv (.t 3), none, none, [], none⟩,
  ⟨(some 8), .bin .quo (.t 7) (.k (.int .u32 16777216)), none, none, [], none⟩,
  ⟨(some 9), .conv .u8 (.t 8), none, none, [], none⟩,
  ⟨(some 10), .mv (.t 3), none, none, [], none⟩,
  ⟨(some 11), .bin .quo (.t 10) (.k (.int .u32 65536)), none, none, [], none⟩,
  ⟨(some 12), .bin .rem (.t 11) (.k (.int .u32 256)), none, none, [], none⟩,
  ⟨(some 13), .conv .u8 (.t 12), none, none, [], none⟩,
  ⟨(some 14), .mv (.t 3), none, none, [], none⟩,
  ⟨(some 15), .bin .quo (.t 14) (.k (.int .u32 256)), none, none, [], none⟩,
  ⟨(some 16), .bin .rem (.t 15) (.k (.int .u32 256)), none, none, [], none⟩,
  ⟨(some 17), .conv .u8 (.t 16), none, none, [], none⟩,
  ⟨(some 18), .mv (.t 3), none, none, [], none⟩,
  ⟨(some 19), .bin .rem (.t 18) (.k (.int .u32 256)), none, none, [], none⟩,
  ⟨(some 20), .conv .u8 (.t 19), none, none, [], none⟩,
  ⟨(some 21), .blds false [(.int .u8 0)] 4 [(0, (.t 9)), (1, (.t 13)), (2, (.t 17)), (3, (.t 20))], none, none, [], none⟩,
  ⟨(some 22), .b2s (.t 21), none, none, [], none⟩,
  ⟨(some 23), .bin .add (.t 6) (.t 22), none, none, [], none⟩,
  ⟨(some 2), .mv (.t 23), none, none, [], none⟩]
def ac_ref02_Seal_2 : AC := .reg l_ref02_Seal_2
def ac_ref02_Seal_3 : AC := .seq ac_ref02_Seal_2 .ret
def ac_ref02_Seal_4 : AC := .seq ac_ref02_Seal_1 ac_ref02_Seal_3
def ac_ref02_Seal_5 : AC := .seq ac_ref02_Seal_0 ac_ref02_Seal_4
def ac_ref02_Seal : AC := ac_ref02_Seal_5
theorem comp_ref02_Seal : compF Try.prog [] (drawR Try.prog [] Try.f29.ntmps) [] 1 Try.f29 = some (ac_ref02_Seal, [.t 2]) := by kernel_rfl
def U_ref02_Seal := (And.intro (And.intro (And.intro (And.intro @ac_ref02_Seal.eq_1 (@mR _ _ ac_ref02_Seal_0.eq_1)) (@mR _ _ ac_ref02_Seal_1.eq_1)) (And.intro (@mR _ _ ac_ref02_Seal_2.eq_1) (@mU _ _ ac_ref02_Seal_3.eq_1))) (And.intro (And.intro (And.intro (@mU _ _ ac_ref02_Seal_4.eq_1) (@mU _ _ ac_ref02_Seal_5.eq_1)) @l_ref02_Seal_0.eq_1) (And.intro @l_ref02_Seal_1.eq_1 @l_ref02_Seal_2.eq_1)))

/- scoria/scoriaref16.put -/
def l_ref16_put_0 : List AOp := [⟨(some 4), .mv (.k (.str [])), none, none, [], none⟩]
def ac_ref16_put_0 : AC := .reg l_ref16_put_0
def l_ref16_put_1 : List AOp := [⟨(some 8), .mv (.t 0), none, none, [], none⟩,
  ⟨(some 9), .conv .u64 (.t 8), none, none, [], none⟩,
  ⟨(some 10), .mv (.t 1), none, none, [], none⟩,
  ⟨(some 11), .call false 48 [(.t 9), (.t 10)], none, none, [], none⟩,
  ⟨(some 7), .mv (.t 11), none, none, [], none⟩,
  ⟨(some 12), .ext 0 (.t 7), none, none, [], none⟩,
  ⟨(some 13), .ext 1 (.t 7), none, none, [], none⟩,
  ⟨(some 5), .mv (.t 12), none, none, [], none⟩,
  ⟨(some 6), .mv (.t 13), none, none, [], none⟩]
def ac_ref16_put_1 : AC := .reg l_ref16_put_1
def l_ref16_put_2 : List AOp := [⟨(some 14), .mv (.t 5), none, none, [], none⟩,
  ⟨(some 4), .mv (.t 14), none, none, [], none⟩]
def ac_ref16_put_2 : AC := .reg l_ref16_put_2
def ac_ref16_put_3 : AC := .seq ac_ref16_put_2 .ret
def ac_ref16_put_4 : AC := .seq ac_ref16_put_1 ac_ref16_put_3
def ac_ref16_put_5 : AC := .seq ac_ref16_put_0 ac_ref16_put_4
def ac_ref16_put : AC := ac_ref16_put_5
theorem comp_ref16_put : compF Try.prog [] (drawR Try.prog [] Try.f30.ntmps) [] 2 Try.f30 = some (ac_ref16_put, [.t 4]) := by kernel_rfl
def U_ref16_put := (And.intro (And.intro (And.intro (And.intro @ac_ref16_put.eq_1 (@mR _ _ ac_ref16_put_0.eq_1)) (@mR _ _ ac_ref16_put_1.eq_1)) (And.intro (@mR _ _ ac_ref16_put_2.eq_1) (@mU _ _ ac_ref16_put_3.eq_1))) (And.intro (And.intro (And.intro (@mU _ _ ac_ref16_put_4.eq_1) (@mU _ _ ac_ref16_put_5.eq_1)) @l_ref16_put_0.eq_1) (And.intro @l_ref16_put_1.eq_1 @l_ref16_put_2.eq_1)))

/- scoria/req.ids -/
def l_req_ids_0 : List AOp := [⟨(some 2), .mv (.k (.bool false)), none, none, [], none⟩]
def ac_req_ids_0 : AC := .reg l_req_ids_0
def l_req_ids_1 : List AOp := [⟨(some 5), .mv (.t 0), none, none, [], none⟩,
  ⟨(some 6), .len (.t 5), none, none, [], none⟩,
  ⟨(some 7), .mv (.k (.int .i64 0)), none, none, [], none⟩]
def ac_req_ids_1 : AC := .reg l_req_ids_1
def l_req_ids_2 : List AOp := [⟨(some 8), .bin .lss (.t 7) (.t 6), none, none, [], none⟩]
def ac_req_ids_2 : AC := .reg l_req_ids_2
def ac_req_ids_3 : AC := .cond (.t 8) .skip (.exit 0)
def l_req_ids_4 : List AOp := [⟨(some 9), .mv (.t 7), none, none, [], none⟩,
  ⟨(some 10), .isl 1 (.t 5) (.t 7), none, none, [], none⟩,
  ⟨(some 11), .load none (.t 10), none, none, [], none⟩,
  ⟨(some 3), .mv (.t 9), none, none, [], none⟩,
  ⟨(some 4), .mv (.t 11), none, none, [], none⟩]
def ac_req_ids_4 : AC := .reg l_req_ids_4
def l_req_ids_5 : List AOp := [⟨(some 12), .mv (.t 4), none, none, [], none⟩,
  ⟨(some 13), .bin .lss (.t 12) (.k (.int .i64 1)), none, none, [], none⟩,
  ⟨(some 14), .mv (.t 13), none, none, [], none⟩,
  ⟨(some 15), .mv (.t 4), (some (14, false)), none, [], none⟩,
  ⟨(some 16), .bin .gtr (.t 15) (.k (.int .i64 65535)), (some (14, false)), none, [], none⟩,
  ⟨(some 17), .pick (.t 14) (.k (.bool true)) (.t 16), none, none, [], none⟩,
  ⟨(some 18), .mv (.t 17), none, none, [], none⟩,
  ⟨(some 19), .mv (.t 3), (some (18, false)), none, [], none⟩,
  ⟨(some 20), .bin .gtr (.t 19) (.k (.int .i64 0)), (some (18, false)), none, [], none⟩,
  ⟨(some 21), .mv (.t 20), (some (18, false)), none, [], none⟩,
  ⟨(some 22), .mv (.t 0), (some (21, true)), none, [], none⟩,
  ⟨(some 23), .mv (.t 3), (some (21, true)), none, [], none⟩,
  ⟨(some 24), .bin .sub (.t 23) (.k (.int .i64 1)), (some (21, true)), none, [], none⟩,
  ⟨(some 25), .isl 1 (.t 22) (.t 24), (some (21, true)), none, [], none⟩,
  ⟨(some 26), .load none (.t 25), (some (21, true)), none, [], none⟩,
  ⟨(some 27), .mv (.t 4), (some (21, true)), none, [], none⟩,
  ⟨(some 28), .bin .geq (.t 26) (.t 27), (some (21, true)), none, [], none⟩,
  ⟨(some 29), .pick (.t 21) (.t 28) (.k (.bool false)), (some (18, false)), none, [], none⟩,
  ⟨(some 30), .pick (.t 18) (.k (.bool true)) (.t 29), none, none, [], none⟩]
def ac_req_ids_5 : AC := .reg l_req_ids_5
def l_req_ids_6 : List AOp := [⟨(some 2), .mv (.k (.bool false)), none, none, [], none⟩]
def ac_req_ids_6 : AC := .reg l_req_ids_6
def ac_req_ids_7 : AC := .seq ac_req_ids_6 .ret
def ac_req_ids_8 : AC := .cond (.t 30) ac_req_ids_7 .skip
def ac_req_ids_9 : AC := .seq ac_req_ids_5 ac_req_ids_8
def ac_req_ids_10 : AC := .seq ac_req_ids_4 ac_req_ids_9
def ac_req_ids_11 : AC := .block 1 ac_req_ids_10
def l_req_ids_12 : List AOp := [⟨(some 31), .bin .add (.t 7) (.k (.int .i64 1)), none, none, [], none⟩,
  ⟨(some 7), .mv (.t 31), none, none, [], none⟩]
def ac_req_ids_12 : AC := .reg l_req_ids_12
def ac_req_ids_13 : AC := .seq ac_req_ids_11 ac_req_ids_12
def ac_req_ids_14 : AC := .seq ac_req_ids_3 ac_req_ids_13
def ac_req_ids_15 : AC := .seq ac_req_ids_2 ac_req_ids_14
def ac_req_ids_16 : AC := .loop [0, 5, 6, 7] 0 ac_req_ids_15
def ac_req_ids_17 : AC := .block 0 ac_req_ids_16
def ac_req_ids_18 : AC := .seq ac_req_ids_1 ac_req_ids_17
def l_req_ids_19 : List AOp := [⟨(some 32), .mv (.t 0), none, none, [], none⟩,
  ⟨(some 33), .len (.t 32), none, none, [], none⟩,
  ⟨(some 34), .bin .leq (.t 33) (.k (.int .i64 8)), none, none, [], none⟩,
  ⟨(some 2), .mv (.t 34), none, none, [], none⟩]
def ac_req_ids_19 : AC := .reg l_req_ids_19
def ac_req_ids_20 : AC := .seq ac_req_ids_19 .ret
def ac_req_ids_21 : AC := .seq ac_req_ids_18 ac_req_ids_20
def ac_req_ids_22 : AC := .seq ac_req_ids_0 ac_req_ids_21
def ac_req_ids : AC := ac_req_ids_22
theorem comp_req_ids : compF Try.prog [] (drawR Try.prog [] Try.f31.ntmps) [([0, 5, 6, 7], 0)] 1 Try.f31 = some (ac_req_ids, [.t 2]) := by kernel_rfl
def U_req_ids := (And.intro (And.intro (And.intro (And.intro (And.intro @ac_req_ids.eq_1 (@mR _ _ ac_req_ids_0.eq_1)) (And.intro (@mR _ _ ac_req_ids_1.eq_1) (@mR _ _ ac_req_ids_2.eq_1))) (And.intro (And.intro (@mU _ _ ac_req_ids_3.eq_1) (@mR _ _ ac_req_ids_4.eq_1)) (And.intro (@mR _ _ ac_req_ids_5.eq_1) (@mR _ _ ac_req_ids_6.eq_1)))) (And.intro (And.intro (And.intro (@mU _ _ ac_req_ids_7.eq_1) (@mU _ _ ac_req_ids_8.eq_1)) (And.intro (@mU _ _ ac_req_ids_9.eq_1) (@mU _ _ ac_req_ids_10.eq_1))) (And.intro (And.intro (@mU _ _ ac_req_ids_11.eq_1) (@mR _ _ ac_req_ids_12.eq_1)) (And.intro (@mU _ _ ac_req_ids_13.eq_1) (@mU _ _ ac_req_ids_14.eq_1))))) (And.intro (And.intro (And.intro (And.intro (@mU _ _ ac_req_ids_15.eq_1) (@mU _ _ ac_req_ids_16.eq_1)) (And.intro (@mU _ _ ac_req_ids_17.eq_1) (@mU _ _ ac_req_ids_18.eq_1))) (And.intro (And.intro (@mR _ _ ac_req_ids_19.eq_1) (@mU _ _ ac_req_ids_20.eq_1)) (And.intro (@mU _ _ ac_req_ids_21.eq_1) (@mU _ _ ac_req_ids_22.eq_1)))) (And.intro (And.intro (And.intro @l_req_ids_0.eq_1 @l_req_ids_1.eq_1) (And.intro @l_req_ids_2.eq_1 @l_req_ids_4.eq_1)) (And.intro (And.intro @l_req_ids_5.eq_1 @l_req_ids_6.eq_1) (And.intro @l_req_ids_12.eq_1 @l_req_ids_19.eq_1)))))

/- scoria/req.back -/
def l_req_back_0 : List AOp := [⟨(some 0), .mv (.k (.slc [])), none, none, [], none⟩]
def ac_req_back_0 : AC := .reg l_req_back_0
def l_req_back_1 : List AOp := [⟨(some 1), .blds false [(.int .i64 0)] 5 [(0, (.k (.int .i64 1))), (1, (.k (.int .i64 4))), (2, (.k (.int .i64 4))), (3, (.k (.int .i64 2))), (4, (.k (.int .i64 1)))], none, none, [], none⟩,
  ⟨(some 0), .mv (.t 1), none, none, [], none⟩]
def ac_req_back_1 : AC := .reg l_req_back_1
def ac_req_back_2 : AC := .seq ac_req_back_1 .ret
def ac_req_back_3 : AC := .seq ac_req_back_0 ac_req_back_2
def ac_req_back : AC := ac_req_back_3
theorem comp_req_back : compF Try.prog [] (drawR Try.prog [] Try.f32.ntmps) [] 0 Try.f32 = some (ac_req_back, [.t 0]) := by kernel_rfl
def U_req_back := (And.intro (And.intro (And.intro @ac_req_back.eq_1 (@mR _ _ ac_req_back_0.eq_1)) (And.intro (@mR _ _ ac_req_back_1.eq_1) (@mU _ _ ac_req_back_2.eq_1))) (And.intro (And.intro (@mU _ _ ac_req_back_3.eq_1) @l_req_back_0.eq_1) @l_req_back_1.eq_1))

/- scoria/field.Put -/
def l_field_Put_0 : List AOp := [⟨(some 4), .mv (.k (.str [])), none, none, [], none⟩,
  ⟨(some 5), .mv (.k (.int .i64 0)), none, none, [], none⟩]
def ac_field_Put_0 : AC := .reg l_field_Put_0
def l_field_Put_1 : List AOp := [⟨(some 7), .mv (.t 1), none, none, [], none⟩,
  ⟨(some 8), .call false 49 [(.t 7)], none, none, [], none⟩,
  ⟨(some 9), .un .not (.t 8), none, none, [], none⟩,
  ⟨(some 6), .mv (.t 9), none, none, [], none⟩]
def ac_field_Put_1 : AC := .reg l_field_Put_1
def l_field_Put_2 : List AOp := [⟨(some 4), .mv (.k (.str [])), none, none, [], none⟩,
  ⟨(some 5), .mv (.k (.int .i64 1)), none, none, [], none⟩]
def ac_field_Put_2 : AC := .reg l_field_Put_2
def ac_field_Put_3 : AC := .seq ac_field_Put_2 .ret
def l_field_Put_4 : List AOp := [⟨(some 11), .mv (.t 0), none, none, [], none⟩,
  ⟨(some 12), .mv (.t 1), none, none, [], none⟩,
  ⟨(some 13), .call false 41 [(.t 11), (.t 12)], none, none, [], none⟩,
  ⟨(some 14), .un .not (.t 13), none, none, [], none⟩,
  ⟨(some 10), .mv (.t 14), none, none, [], none⟩]
def ac_field_Put_4 : AC := .reg l_field_Put_4
def l_field_Put_5 : List AOp := [⟨(some 4), .mv (.k (.str [])), none, none, [], none⟩,
  ⟨(some 5), .mv (.k (.int .i64 2)), none, none, [], none⟩]
def ac_field_Put_5 : AC := .reg l_field_Put_5
def ac_field_Put_6 : AC := .seq ac_field_Put_5 .ret
def ac_field_Put_7 : AC := .cond (.t 10) ac_field_Put_6 .skip
def ac_field_Put_8 : AC := .seq ac_field_Put_4 ac_field_Put_7
def ac_field_Put_9 : AC := .cond (.t 6) ac_field_Put_3 ac_field_Put_8
def ac_field_Put_10 : AC := .seq ac_field_Put_1 ac_field_Put_9
def ac_field_Put_11 : AC := .block 0 ac_field_Put_10
def l_field_Put_12 : List AOp := [⟨(some 15), .mv (.t 0), none, none, [], none⟩,
  ⟨(some 16), .mv (.t 1), none, none, [], none⟩,
  ⟨(some 17), .call false 43 [(.t 15), (.t 16)], none, none, [], none⟩,
  ⟨(some 4), .mv (.t 17), none, none, [], none⟩,
  ⟨(some 5), .mv (.k (.int .i64 0)), none, none, [], none⟩]
def ac_field_Put_12 : AC := .reg l_field_Put_12
def ac_field_Put_13 : AC := .seq ac_field_Put_12 .ret
def ac_field_Put_14 : AC := .seq ac_field_Put_11 ac_field_Put_13
def ac_field_Put_15 : AC := .seq ac_field_Put_0 ac_field_Put_14
def ac_field_Put : AC := ac_field_Put_15
theorem comp_field_Put : compF Try.prog [] (drawR Try.prog [] Try.f33.ntmps) [] 2 Try.f33 = some (ac_field_Put, [.t 4, .t 5]) := by kernel_rfl
def U_field_Put := (And.intro (And.intro (And.intro (And.intro (And.intro @ac_field_Put.eq_1 (@mR _ _ ac_field_Put_0.eq_1)) (@mR _ _ ac_field_Put_1.eq_1)) (And.intro (And.intro (@mR _ _ ac_field_Put_2.eq_1) (@mU _ _ ac_field_Put_3.eq_1)) (@mR _ _ ac_field_Put_4.eq_1))) (And.intro (And.intro (And.intro (@mR _ _ ac_field_Put_5.eq_1) (@mU _ _ ac_field_Put_6.eq_1)) (@mU _ _ ac_field_Put_7.eq_1)) (And.intro (And.intro (@mU _ _ ac_field_Put_8.eq_1) (@mU _ _ ac_field_Put_9.eq_1)) (@mU _ _ ac_field_Put_10.eq_1)))) (And.intro (And.intro (And.intro (And.intro (@mU _ _ ac_field_Put_11.eq_1) (@mR _ _ ac_field_Put_12.eq_1)) (@mU _ _ ac_field_Put_13.eq_1)) (And.intro (And.intro (@mU _ _ ac_field_Put_14.eq_1) (@mU _ _ ac_field_Put_15.eq_1)) @l_field_Put_0.eq_1)) (And.intro (And.intro (And.intro @l_field_Put_1.eq_1 @l_field_Put_2.eq_1) @l_field_Put_4.eq_1) (And.intro @l_field_Put_5.eq_1 @l_field_Put_12.eq_1))))

/- scoria/scoriaref16.MayRep -/
def l_ref16_MayRep_0 : List AOp := [⟨(some 1), .box (.t 0), none, none, [], none⟩,
  ⟨(some 2), .mv (.k (.bool false)), none, none, [], none⟩]
def ac_ref16_MayRep_0 : AC := .reg l_ref16_MayRep_0
def l_ref16_MayRep_1 : List AOp := [⟨(some 4), .faddr 0 (.t 1), none, none, [], none⟩,
  ⟨(some 5), .load none (.t 4), none, none, [], none⟩,
  ⟨(some 6), .bin .lss (.t 5) (.k (.int .i64 0)), none, none, [], none⟩,
  ⟨(some 7), .mv (.t 6), none, none, [], none⟩,
  ⟨(some 8), .faddr 0 (.t 1), (some (7, false)), none, [], none⟩,
  ⟨(some 9), .load none (.t 8), (some (7, false)), none, [], none⟩,
  ⟨(some 10), .bin .gtr (.t 9) (.k (.int .i64 255)), (some (7, false)), none, [], none⟩,
  ⟨(some 11), .pick (.t 7) (.k (.bool true)) (.t 10), none, none, [], none⟩,
  ⟨(some 12), .mv (.t 11), none, none, [], none⟩,
  ⟨(some 13), .faddr 2 (.t 1), (some (12, false)), none, [], none⟩,
  ⟨(some 14), .load none (.t 13), (some (12, false)), none, [], none⟩,
  ⟨(some 15), .call false 46 [(.t 14)], (some (12, false)), none, [], none⟩,
  ⟨(some 16), .un .not (.t 15), (some (12, false)), none, [], none⟩,
  ⟨(some 17), .pick (.t 12) (.k (.bool true)) (.t 16), none, none, [], none⟩,
  ⟨(some 18), .mv (.t 17), none, none, [], none⟩,
  ⟨(some 19), .faddr 3 (.t 1), (some (18, false)), none, [], none⟩,
  ⟨(some 20), .load none (.t 19), (some (18, false)), none, [], none⟩,
  ⟨(some 21), .call false 46 [(.t 20)], (some (18, false)), none, [], none⟩,
  ⟨(some 22), .un .not (.t 21), (some (18, false)), none, [], none⟩,
  ⟨(some 23), .pick (.t 18) (.k (.bool true)) (.t 22), none, none, [], none⟩,
  ⟨(some 24), .mv (.t 23), none, none, [], none⟩,
  ⟨(some 25), .faddr 1 (.t 1), (some (24, false)), none, [], none⟩,
  ⟨(some 26), .load none (.t 25), (some (24, false)), none, [], none⟩,
  ⟨(some 27), .lens (.t 26), (some (24, false)), none, [], none⟩,
  ⟨(some 28), .bin .gtr (.t 27) (.k (.int .i64 512)), (some (24, false)), none, [], none⟩,
  ⟨(some 29), .pick (.t 24) (.k (.bool true)) (.t 28), none, none, [], none⟩,
  ⟨(some 30), .mv (.t 29), none, none, [], none⟩,
  ⟨(some 31), .faddr 4 (.t 1), (some (30, false)), none, [], none⟩,
  ⟨(some 32), .load none (.t 31), (some (30, false)), none, [], none⟩,
  ⟨(some 33), .len (.t 32), (some (30, false)), none, [], none⟩,
  ⟨(some 34), .bin .gtr (.t 33) (.k (.int .i64 8)), (some (30, false)), none, [], none⟩,
  ⟨(some 35), .pick (.t 30) (.k (.bool true)) (.t 34), none, none, [], none⟩]
def ac_ref16_MayRep_1 : AC := .reg l_ref16_MayRep_1
def l_ref16_MayRep_2 : List AOp := [⟨(some 2), .mv (.k (.bool false)), none, none, [], none⟩]
def ac_ref16_MayRep_2 : AC := .reg l_ref16_MayRep_2
def ac_ref16_MayRep_3 : AC := .seq ac_ref16_MayRep_2 .ret
def ac_ref16_MayRep_4 : AC := .cond (.t 35) ac_ref16_MayRep_3 .skip
def ac_ref16_MayRep_5 : AC := .seq ac_ref16_MayRep_1 ac_ref16_MayRep_4
def l_ref16_MayRep_6 : List AOp := [⟨(some 3), .mv (.k (.int .i64 0)), none, none, [], none⟩]
def ac_ref16_MayRep_6 : AC := .reg l_ref16_MayRep_6
def l_ref16_MayRep_7 : List AOp := [⟨(some 36), .mv (.t 3), none, none, [], none⟩,
  ⟨(some 37), .faddr 4 (.t 1), none, none, [], none⟩,
  ⟨(some 38), .load none (.t 37), none, none, [], none⟩,
  ⟨(some 39), .len (.t 38), none, none, [], none⟩,
  ⟨(some 40), .bin .lss (.t 36) (.t 39), none, none, [], none⟩]
def ac_ref16_MayRep_7 : AC := .reg l_ref16_MayRep_7
def ac_ref16_MayRep_8 : AC := .cond (.t 40) .skip (.exit 0)
def ac_ref16_MayRep_9 : AC := .seq ac_ref16_MayRep_7 ac_ref16_MayRep_8
def l_ref16_MayRep_10 : List AOp := [⟨(some 43), .faddr 4 (.t 1), none, none, [], none⟩,
  ⟨(some 44), .load none (.t 43), none, none, [], none⟩,
  ⟨(some 45), .mv (.t 3), none, none, [], none⟩,
  ⟨(some 46), .isl 1 (.t 44) (.t 45), none, none, [], none⟩,
  ⟨(some 47), .load none (.t 46), none, none, [], none⟩,
  ⟨(some 48), .bin .lss (.t 47) (.k (.int .i64 1)), none, none, [], none⟩,
  ⟨(some 49), .mv (.t 48), none, none, [], none⟩,
  ⟨(some 50), .faddr 4 (.t 1), (some (49, false)), none, [], none⟩,
  ⟨(some 51), .load none (.t 50), (some (49, false)), none, [], none⟩,
  ⟨(some 52), .mv (.t 3), (some (49, false)), none, [], none⟩,
  ⟨(some 53), .isl 1 (.t 51) (.t 52), (some (49, false)), none, [], none⟩,
  ⟨(some 54), .load none (.t 53), (some (49, false)), none, [], none⟩,
  ⟨(some 55), .bin .gtr (.t 54) (.k (.int .i64 65535)), (some (49, false)), none, [], none⟩,
  ⟨(some 56), .pick (.t 49) (.k (.bool true)) (.t 55), none, none, [], none⟩,
  ⟨(some 57), .mv (.t 56), none, none, [], none⟩,
  ⟨(some 58), .mv (.t 3), (some (57, false)), none, [], none⟩,
  ⟨(some 59), .bin .gtr (.t 58) (.k (.int .i64 0)), (some (57, false)), none, [], none⟩,
  ⟨(some 60), .mv (.t 59), (some (57, false)), none, [], none⟩,
  ⟨(some 61), .faddr 4 (.t 1), (some (60, true)), none, [], none⟩,
  ⟨(some 62), .load none (.t 61), (some (60, true)), none, [], none⟩,
  ⟨(some 63), .mv (.t 3), (some (60, true)), none, [], none⟩,
  ⟨(some 64), .isl 1 (.t 62) (.t 63), (some (60, true)), none, [], none⟩,
  ⟨(some 65), .load none (.t 64), (some (60, true)), none, [], none⟩,
  ⟨(some 66), .faddr 4 (.t 1), (some (60, true)), none, [], none⟩,
  ⟨(some 67), .load none (.t 66), (some (60, true)), none, [], none⟩,
  ⟨(some 68), .mv (.t 3), (some (60, true)), none, [], none⟩,
  ⟨(some 69), .bin .sub (.t 68) (.k (.int .i64 1)), (some (60, true)), none, [], none⟩,
  ⟨(some 70), .isl 1 (.t 67) (.t 69), (some (60, true)), none, [], none⟩,
  ⟨(some 71), .load none (.t 70), (some (60, true)), none, [], none⟩,
  ⟨(some 72), .bin .leq (.t 65) (.t 71), (some (60, true)), none, [], none⟩,
  ⟨(some 73), .pick (.t 60) (.t 72) (.k (.bool false)), (some (57, false)), none, [], none⟩,
  ⟨(some 74), .pick (.t 57) (.k (.bool true)) (.t 73), none, none, [], none⟩]
def ac_ref16_MayRep_10 : AC := .dreg 0 l_ref16_MayRep_10
def l_ref16_MayRep_11 : List AOp := [⟨(some 2), .mv (.k (.bool false)), none, none, [], none⟩]
def ac_ref16_MayRep_11 : AC := .reg l_ref16_MayRep_11
def ac_ref16_MayRep_12 : AC := .seq ac_ref16_MayRep_11 .ret
def ac_ref16_MayRep_13 : AC := .cond (.t 74) ac_ref16_MayRep_12 .skip
def ac_ref16_MayRep_14 : AC := .seq ac_ref16_MayRep_10 ac_ref16_MayRep_13
def ac_ref16_MayRep_15 : AC := .block 1 ac_ref16_MayRep_14
def l_ref16_MayRep_16 : List AOp := [⟨(some 41), .mv (.t 3), none, none, [], none⟩,
  ⟨(some 42), .bin .add (.t 41) (.k (.int .i64 1)), none, none, [], none⟩,
  ⟨(some 3), .mv (.t 42), none, none, [], none⟩]
def ac_ref16_MayRep_16 : AC := .reg l_ref16_MayRep_16
def ac_ref16_MayRep_17 : AC := .seq ac_ref16_MayRep_15 ac_ref16_MayRep_16
def ac_ref16_MayRep_18 : AC := .seq ac_ref16_MayRep_9 ac_ref16_MayRep_17
def ac_ref16_MayRep_19 : AC := .loop [1, 3] 1 ac_ref16_MayRep_18
def ac_ref16_MayRep_20 : AC := .block 0 ac_ref16_MayRep_19
def ac_ref16_MayRep_21 : AC := .seq ac_ref16_MayRep_6 ac_ref16_MayRep_20
def l_ref16_MayRep_22 : List AOp := [⟨(some 2), .mv (.k (.bool true)), none, none, [], none⟩]
def ac_ref16_MayRep_22 : AC := .reg l_ref16_MayRep_22
def ac_ref16_MayRep_23 : AC := .seq ac_ref16_MayRep_22 .ret
def ac_ref16_MayRep_24 : AC := .seq ac_ref16_MayRep_21 ac_ref16_MayRep_23
def ac_ref16_MayRep_25 : AC := .seq ac_ref16_MayRep_5 ac_ref16_MayRep_24
def ac_ref16_MayRep_26 : AC := .seq ac_ref16_MayRep_0 ac_ref16_MayRep_25
def ac_ref16_MayRep : AC := ac_ref16_MayRep_26
theorem comp_ref16_MayRep : compF Try.prog [] (drawR Try.prog [] Try.f34.ntmps) [([1, 3], 1)] 1 Try.f34 = some (ac_ref16_MayRep, [.t 2]) := by kernel_rfl
def U_ref16_MayRep := (And.intro (And.intro (And.intro (And.intro (And.intro (And.intro @ac_ref16_MayRep.eq_1 (@mR _ _ ac_ref16_MayRep_0.eq_1)) (@mR _ _ ac_ref16_MayRep_1.eq_1)) (And.intro (@mR _ _ ac_ref16_MayRep_2.eq_1) (@mU _ _ ac_ref16_MayRep_3.eq_1))) (And.intro (And.intro (And.intro (@mU _ _ ac_ref16_MayRep_4.eq_1) (@mU _ _ ac_ref16_MayRep_5.eq_1)) (@mR _ _ ac_ref16_MayRep_6.eq_1)) (And.intro (@mR _ _ ac_ref16_MayRep_7.eq_1) (@mU _ _ ac_ref16_MayRep_8.eq_1)))) (And.intro (And.intro (And.intro (And.intro (@mU _ _ ac_ref16_MayRep_9.eq_1) (@mD _ _ _ ac_ref16_MayRep_10.eq_1)) (@mR _ _ ac_ref16_MayRep_11.eq_1)) (And.intro (@mU _ _ ac_ref16_MayRep_12.eq_1) (@mU _ _ ac_ref16_MayRep_13.eq_1))) (And.intro (And.intro (@mU _ _ ac_ref16_MayRep_14.eq_1) (@mU _ _ ac_ref16_MayRep_15.eq_1)) (And.intro (@mR _ _ ac_ref16_MayRep_16.eq_1) (@mU _ _ ac_ref16_MayRep_17.eq_1))))) (And.intro (And.intro (And.intro (And.intro (And.intro (@mU _ _ ac_ref16_MayRep_18.eq_1) (@mU _ _ ac_ref16_MayRep_19.eq_1)) (@mU _ _ ac_ref16_MayRep_20.eq_1)) (And.intro (@mU _ _ ac_ref16_MayRep_21.eq_1) (@mR _ _ ac_ref16_MayRep_22.eq_1))) (And.intro (And.intro (@mU _ _ ac_ref16_MayRep_23.eq_1) (@mU _ _ ac_ref16_MayRep_24.eq_1)) (And.intro (@mU _ _ ac_ref16_MayRep_25.eq_1) (@mU _ _ ac_ref16_MayRep_26.eq_1)))) (And.intro (And.intro (And.intro (And.intro @l_ref16_MayRep_0.eq_1 @l_ref16_MayRep_1.eq_1) @l_ref16_MayRep_2.eq_1) (And.intro @l_ref16_MayRep_6.eq_1 @l_ref16_MayRep_7.eq_1)) (And.intro (And.intro @l_ref16_MayRep_10.eq_1 @l_ref16_MayRep_11.eq_1) (And.intro @l_ref16_MayRep_16.eq_1 @l_ref16_MayRep_22.eq_1)))))

/- scoria/check.Open -/
def l_check_Open_0 : List AOp := [⟨(some 2), .mv (.k (.str [])), none, none, [], none⟩,
  ⟨(some 3), .mv (.k (.int .i64 0)), none, none, [], none⟩]
def ac_check_Open_0 : AC := .reg l_check_Open_0
def l_check_Open_1 : List AOp := [⟨(some 5), .mv (.t 0), none, none, [], none⟩,
  ⟨(some 6), .lens (.t 5), none, none, [], none⟩,
  ⟨(some 7), .bin .sub (.t 6) (.k (.int .i64 4)), none, none, [], none⟩,
  ⟨(some 4), .mv (.t 7), none, none, [], none⟩]
def ac_check_Open_1 : AC := .reg l_check_Open_1
def l_check_Open_2 : List AOp := [⟨(some 9), .mv (.t 4), none, none, [], none⟩,
  ⟨(some 10), .bin .lss (.t 9) (.k (.int .i64 0)), none, none, [], none⟩,
  ⟨(some 8), .mv (.t 10), none, none, [], none⟩]
def ac_check_Open_2 : AC := .reg l_check_Open_2
def l_check_Open_3 : List AOp := [⟨(some 2), .mv (.k (.str [])), none, none, [], none⟩,
  ⟨(some 3), .mv (.k (.int .i64 5)), none, none, [], none⟩]
def ac_check_Open_3 : AC := .reg l_check_Open_3
def ac_check_Open_4 : AC := .seq ac_check_Open_3 .ret
def l_check_Open_5 : List AOp := [⟨(some 12), .mv (.t 0), none, none, [], none⟩,
  ⟨(some 13), .mv (.t 4), none, none, [], none⟩,
  ⟨(some 14), .sstr (.t 12) none (some (.t 13)), none, none, [], none⟩,
  ⟨(some 15), .call false 27 [(.t 14)], none, none, [], none⟩,
  ⟨(some 16), .mv (.t 0), none, none, [], none⟩,
  ⟨(some 17), .bin .neq (.t 15) (.t 16), none, none, [], none⟩,
  ⟨(some 11), .mv (.t 17), none, none, [], none⟩]
def ac_check_Open_5 : AC := .reg l_check_Open_5
def l_check_Open_6 : List AOp := [⟨(some 2), .mv (.k (.str [])), none, none, [], none⟩,
  ⟨(some 3), .mv (.k (.int .i64 6)), none, none, [], none⟩]
def ac_check_Open_6 : AC := .reg l_check_Open_6
def ac_check_Open_7 : AC := .seq ac_check_Open_6 .ret
def ac_check_Open_8 : AC := .cond (.t 11) ac_check_Open_7 .skip
def ac_check_Open_9 : AC := .seq ac_check_Open_5 ac_check_Open_8
def ac_check_Open_10 : AC := .cond (.t 8) ac_check_Open_4 ac_check_Open_9
def ac_check_Open_11 : AC := .seq ac_check_Open_2 ac_check_Open_10
def ac_check_Open_12 : AC := .block 0 ac_check_Open_11
def l_check_Open_13 : List AOp := [⟨(some 18), .mv (.t 0), none, none, [], none⟩,
  ⟨(some 19), .mv (.t 4), none, none, [], none⟩,
  ⟨(some 20), .sstr (.t 18) none (some (.t 19)), none, none, [], none⟩,
  ⟨(some 2), .mv (.t 20), none, none, [], none⟩,
  ⟨(some 3), .mv (.k (.int .i64 0)), none, none, [], none⟩]
def ac_check_Open_13 : AC := .reg l_check_Open_13
def ac_check_Open_14 : AC := .seq ac_check_Open_13 .ret
def ac_check_Open_15 : AC := .seq ac_check_Open_12 ac_check_Open_14
def ac_check_Open_16 : AC := .seq ac_check_Open_1 ac_check_Open_15
def ac_check_Open_17 : AC := .seq ac_check_Open_0 ac_check_Open_16
def ac_check_Open : AC := ac_check_Open_17
theorem comp_check_Open : compF Try.prog [] (drawR Try.prog [] Try.f35.ntmps) [] 1 Try.f35 = some (ac_check_Open, [.t 2, .t 3]) := by kernel_rfl
def U_check_Open := (And.intro (And.intro (And.intro (And.intro (And.intro @ac_check_Open.eq_1 (@mR _ _ ac_check_Open_0.eq_1)) (And.intro (@mR _ _ ac_check_Open_1.eq_1) (@mR _ _ ac_check_Open_2.eq_1))) (And.intro (And.intro (@mR _ _ ac_check_Open_3.eq_1) (@mU _ _ ac_check_Open_4.eq_1)) (@mR _ _ ac_check_Open_5.eq_1))) (And.intro (And.intro (And.intro (@mR _ _ ac_check_Open_6.eq_1) (@mU _ _ ac_check_Open_7.eq_1)) (@mU _ _ ac_check_Open_8.eq_1)) (And.intro (And.intro (@mU _ _ ac_check_Open_9.eq_1) (@mU _ _ ac_check_Open_10.eq_1)) (@mU _ _ ac_check_Open_11.eq_1)))) (And.intro (And.intro (And.intro (And.intro (@mU _ _ ac_check_Open_12.eq_1) (@mR _ _ ac_check_Open_13.eq_1)) (And.intro (@mU _ _ ac_check_Open_14.eq_1) (@mU _ _ ac_check_Open_15.eq_1))) (And.intro (And.intro (@mU _ _ ac_check_Open_16.eq_1) (@mU _ _ ac_check_Open_17.eq_1)) @l_check_Open_0.eq_1)) (And.intro (And.intro (And.intro @l_check_Open_1.eq_1 @l_check_Open_2.eq_1) @l_check_Open_3.eq_1) (And.intro (And.intro @l_check_Open_5.eq_1 @l_check_Open_6.eq_1) @l_check_Open_13.eq_1))))

/- scoria/field.Take -/
def l_field_Take_0 : List AOp := [⟨(some 4), .nilown 1, none, none, [], none⟩,
  ⟨(some 5), .mv (.k (.str [])), none, none, [], none⟩,
  ⟨(some 6), .mv (.k (.int .i64 0)), none, none, [], none⟩]
def ac_field_Take_0 : AC := .reg l_field_Take_0
def l_field_Take_1 : List AOp := [⟨(some 12), .mv (.t 1), none, none, [], none⟩,
  ⟨(some 13), .call false 39 [(.t 12), (.k (.fn (.func 40) [] []))], none, none, [], none⟩]
def ac_field_Take_1 : AC := .reg l_field_Take_1
def l_field_Take_2 : List AOp := [⟨(some 4), .nilown 1, none, none, [], none⟩,
  ⟨(some 5), .mv (.k (.str [])), none, none, [], none⟩,
  ⟨(some 6), .mv (.k (.int .i64 1)), none, none, [], none⟩]
def ac_field_Take_2 : AC := .reg l_field_Take_2
def ac_field_Take_3 : AC := .seq ac_field_Take_2 .ret
def ac_field_Take_4 : AC := .cond (.t 13) ac_field_Take_3 .skip
def ac_field_Take_5 : AC := .seq ac_field_Take_1 ac_field_Take_4
def l_field_Take_6 : List AOp := [⟨(some 7), .mv (.k (.int .i64 0)), none, none, [], none⟩]
def ac_field_Take_6 : AC := .reg l_field_Take_6
def l_field_Take_7 : List AOp := [⟨(some 14), .mv (.t 1), none, none, [], none⟩,
  ⟨(some 15), .len (.t 14), none, none, [], none⟩,
  ⟨(some 16), .mv (.k (.int .i64 0)), none, none, [], none⟩]
def ac_field_Take_7 : AC := .reg l_field_Take_7
def l_field_Take_8 : List AOp := [⟨(some 17), .bin .lss (.t 16) (.t 15), none, none, [], none⟩]
def ac_field_Take_8 : AC := .reg l_field_Take_8
def ac_field_Take_9 : AC := .cond (.t 17) .skip (.exit 0)
def l_field_Take_10 : List AOp := [⟨(some 18), .isl 1 (.t 14) (.t 16), none, none, [], none⟩,
  ⟨(some 19), .load none (.t 18), none, none, [], none⟩,
  ⟨(some 9), .mv (.t 19), none, none, [], none⟩]
def ac_field_Take_10 : AC := .reg l_field_Take_10
def l_field_Take_11 : List AOp := [⟨(some 21), .mv (.t 0), none, none, [], none⟩,
  ⟨(some 22), .mv (.t 7), none, none, [], none⟩,
  ⟨(some 23), .mv (.t 9), none, none, [], none⟩,
  ⟨(some 24), .call false 50 [(.t 21), (.t 22), (.t 23)], none, none, [], none⟩,
  ⟨(some 20), .mv (.t 24), none, none, [], none⟩,
  ⟨(some 25), .ext 0 (.t 20), none, none, [], none⟩,
  ⟨(some 26), .ext 1 (.t 20), none, none, [], none⟩,
  ⟨(some 10), .mv (.t 25), none, none, [], none⟩,
  ⟨(some 11), .mv (.t 26), none, none, [], none⟩]
def ac_field_Take_11 : AC := .reg l_field_Take_11
def l_field_Take_12 : List AOp := [⟨(some 27), .mv (.t 11), none, none, [], none⟩,
  ⟨(some 28), .bin .neq (.t 27) (.k (.int .i64 0)), none, none, [], none⟩]
def ac_field_Take_12 : AC := .reg l_field_Take_12
def l_field_Take_13 : List AOp := [⟨(some 29), .mv (.t 11), none, none, [], none⟩,
  ⟨(some 4), .nilown 1, none, none, [], none⟩,
  ⟨(some 5), .mv (.k (.str [])), none, none, [], none⟩,
  ⟨(some 6), .mv (.t 29), none, none, [], none⟩]
def ac_field_Take_13 : AC := .reg l_field_Take_13
def ac_field_Take_14 : AC := .seq ac_field_Take_13 .ret
def ac_field_Take_15 : AC := .cond (.t 28) ac_field_Take_14 .skip
def ac_field_Take_16 : AC := .seq ac_field_Take_12 ac_field_Take_15
def l_field_Take_17 : List AOp := [⟨(some 30), .mv (.t 4), none, none, [], none⟩,
  ⟨(some 31), .mv (.t 10), none, none, [], none⟩,
  ⟨(some 32), .blds false [(.int .u64 0)] 1 [(0, (.t 31))], none, none, [], none⟩,
  ⟨(some 33), .app 1 8 [(.int .u64 0)] (.t 30) (.t 32), none, none, [], none⟩,
  ⟨(some 4), .mv (.t 33), none, none, [], none⟩]
def ac_field_Take_17 : AC := .reg l_field_Take_17
def l_field_Take_18 : List AOp := [⟨(some 34), .mv (.t 7), none, none, [], none⟩,
  ⟨(some 35), .mv (.t 9), none, none, [], none⟩,
  ⟨(some 36), .bin .add (.t 34) (.t 35), none, none, [], none⟩,
  ⟨(some 7), .mv (.t 36), none, none, [], none⟩]
def ac_field_Take_18 : AC := .reg l_field_Take_18
def ac_field_Take_19 : AC := .seq ac_field_Take_17 ac_field_Take_18
def ac_field_Take_20 : AC := .seq ac_field_Take_16 ac_field_Take_19
def ac_field_Take_21 : AC := .seq ac_field_Take_11 ac_field_Take_20
def ac_field_Take_22 : AC := .seq ac_field_Take_10 ac_field_Take_21
def ac_field_Take_23 : AC := .block 1 ac_field_Take_22
def l_field_Take_24 : List AOp := [⟨(some 37), .bin .add (.t 16) (.k (.int .i64 1)), none, none, [], none⟩,
  ⟨(some 16), .mv (.t 37), none, none, [], none⟩]
def ac_field_Take_24 : AC := .reg l_field_Take_24
def ac_field_Take_25 : AC := .seq ac_field_Take_23 ac_field_Take_24
def ac_field_Take_26 : AC := .seq ac_field_Take_9 ac_field_Take_25
def ac_field_Take_27 : AC := .seq ac_field_Take_8 ac_field_Take_26
def ac_field_Take_28 : AC := .loop [0, 4, 7, 14, 15, 16] 1 ac_field_Take_27
def ac_field_Take_29 : AC := .block 0 ac_field_Take_28
def ac_field_Take_30 : AC := .seq ac_field_Take_7 ac_field_Take_29
def l_field_Take_31 : List AOp := [⟨(some 38), .mv (.t 4), none, none, [], none⟩,
  ⟨(some 39), .mv (.t 0), none, none, [], none⟩,
  ⟨(some 40), .mv (.t 7), none, none, [], none⟩,
  ⟨(some 41), .sstr (.t 39) (some (.t 40)) none, none, none, [], none⟩,
  ⟨(some 4), .mv (.t 38), none, none, [], none⟩,
  ⟨(some 5), .mv (.t 41), none, none, [], none⟩,
  ⟨(some 6), .mv (.k (.int .i64 0)), none, none, [], none⟩]
def ac_field_Take_31 : AC := .dreg 0 l_field_Take_31
def ac_field_Take_32 : AC := .seq ac_field_Take_31 .ret
def ac_field_Take_33 : AC := .seq ac_field_Take_30 ac_field_Take_32
def ac_field_Take_34 : AC := .seq ac_field_Take_6 ac_field_Take_33
def ac_field_Take_35 : AC := .seq ac_field_Take_5 ac_field_Take_34
def ac_field_Take_36 : AC := .seq ac_field_Take_0 ac_field_Take_35
def ac_field_Take : AC := ac_field_Take_36
theorem comp_field_Take : compF Try.prog [4] (drawR Try.prog [4] Try.f36.ntmps) [([0, 4, 7, 14, 15, 16], 1)] 2 Try.f36 = some (ac_field_Take, [.t 4, .t 5, .t 6]) := by kernel_rfl
def U_field_Take := (And.intro (And.intro (And.intro (And.intro (And.intro (And.intro @ac_field_Take.eq_1 (@mR _ _ ac_field_Take_0.eq_1)) (And.intro (@mR _ _ ac_field_Take_1.eq_1) (@mR _ _ ac_field_Take_2.eq_1))) (And.intro (And.intro (@mU _ _ ac_field_Take_3.eq_1) (@mU _ _ ac_field_Take_4.eq_1)) (@mU _ _ ac_field_Take_5.eq_1))) (And.intro (And.intro (And.intro (@mR _ _ ac_field_Take_6.eq_1) (@mR _ _ ac_field_Take_7.eq_1)) (@mR _ _ ac_field_Take_8.eq_1)) (And.intro (And.intro (@mU _ _ ac_field_Take_9.eq_1) (@mR _ _ ac_field_Take_10.eq_1)) (@mR _ _ ac_field_Take_11.eq_1)))) (And.intro (And.intro (And.intro (And.intro (@mR _ _ ac_field_Take_12.eq_1) (@mR _ _ ac_field_Take_13.eq_1)) (And.intro (@mU _ _ ac_field_Take_14.eq_1) (@mU _ _ ac_field_Take_15.eq_1))) (And.intro (And.intro (@mU _ _ ac_field_Take_16.eq_1) (@mR _ _ ac_field_Take_17.eq_1)) (@mR _ _ ac_field_Take_18.eq_1))) (And.intro (And.intro (And.intro (@mU _ _ ac_field_Take_19.eq_1) (@mU _ _ ac_field_Take_20.eq_1)) (@mU _ _ ac_field_Take_21.eq_1)) (And.intro (And.intro (@mU _ _ ac_field_Take_22.eq_1) (@mU _ _ ac_field_Take_23.eq_1)) (@mR _ _ ac_field_Take_24.eq_1))))) (And.intro (And.intro (And.intro (And.intro (And.intro (@mU _ _ ac_field_Take_25.eq_1) (@mU _ _ ac_field_Take_26.eq_1)) (And.intro (@mU _ _ ac_field_Take_27.eq_1) (@mU _ _ ac_field_Take_28.eq_1))) (And.intro (And.intro (@mU _ _ ac_field_Take_29.eq_1) (@mU _ _ ac_field_Take_30.eq_1)) (@mD _ _ _ ac_field_Take_31.eq_1))) (And.intro (And.intro (And.intro (@mU _ _ ac_field_Take_32.eq_1) (@mU _ _ ac_field_Take_33.eq_1)) (@mU _ _ ac_field_Take_34.eq_1)) (And.intro (And.intro (@mU _ _ ac_field_Take_35.eq_1) (@mU _ _ ac_field_Take_36.eq_1)) @l_field_Take_0.eq_1))) (And.intro (And.intro (And.intro (And.intro @l_field_Take_1.eq_1 @l_field_Take_2.eq_1) (And.intro @l_field_Take_6.eq_1 @l_field_Take_7.eq_1)) (And.intro (And.intro @l_field_Take_8.eq_1 @l_field_Take_10.eq_1) @l_field_Take_11.eq_1)) (And.intro (And.intro (And.intro @l_field_Take_12.eq_1 @l_field_Take_13.eq_1) @l_field_Take_17.eq_1) (And.intro (And.intro @l_field_Take_18.eq_1 @l_field_Take_24.eq_1) @l_field_Take_31.eq_1)))))

/- scoria/scoriaref02.Open -/
def l_ref02_Open_0 : List AOp := [⟨(some 2), .mv (.k (.str [])), none, none, [], none⟩,
  ⟨(some 3), .mv (.k (.int .i64 0)), none, none, [], none⟩]
def ac_ref02_Open_0 : AC := .reg l_ref02_Open_0
def l_ref02_Open_1 : List AOp := [⟨(some 4), .mv (.t 0), none, none, [], none⟩,
  ⟨(some 5), .lens (.t 4), none, none, [], none⟩,
  ⟨(some 6), .bin .lss (.t 5) (.k (.int .i64 4)), none, none, [], none⟩]
def ac_ref02_Open_1 : AC := .reg l_ref02_Open_1
def l_ref02_Open_2 : List AOp := [⟨(some 2), .mv (.k (.str [])), none, none, [], none⟩,
  ⟨(some 3), .mv (.k (.int .i64 5)), none, none, [], none⟩]
def ac_ref02_Open_2 : AC := .reg l_ref02_Open_2
def ac_ref02_Open_3 : AC := .seq ac_ref02_Open_2 .ret
def ac_ref02_Open_4 : AC := .cond (.t 6) ac_ref02_Open_3 .skip
def ac_ref02_Open_5 : AC := .seq ac_ref02_Open_1 ac_ref02_Open_4
def l_ref02_Open_6 : List AOp := [⟨(some 7), .mv (.t 0), none, none, [], none⟩,
  ⟨(some 8), .mv (.t 0), none, none, [], none⟩,
  ⟨(some 9), .lens (.t 8), none, none, [], none⟩,
  ⟨(some 10), .bin .sub (.t 9) (.k (.int .i64 4)), none, none, [], none⟩,
  ⟨(some 11), .sstr (.t 7) none (some (.t 10)), none, none, [], none⟩,
  ⟨(some 12), .call false 29 [(.t 11)], none, none, [], none⟩,
  ⟨(some 13), .mv (.t 0), none, none, [], none⟩,
  ⟨(some 14), .bin .neq (.t 12) (.t 13), none, none, [], none⟩]
def ac_ref02_Open_6 : AC := .reg l_ref02_Open_6
def l_ref02_Open_7 : List AOp := [⟨(some 2), .mv (.k (.str [])), none, none, [], none⟩,
  ⟨(some 3), .mv (.k (.int .i64 6)), none, none, [], none⟩]
def ac_ref02_Open_7 : AC := .reg l_ref02_Open_7
def ac_ref02_Open_8 : AC := .seq ac_ref02_Open_7 .ret
def ac_ref02_Open_9 : AC := .cond (.t 14) ac_ref02_Open_8 .skip
def ac_ref02_Open_10 : AC := .seq ac_ref02_Open_6 ac_ref02_Open_9
def l_ref02_Open_11 : List AOp := [⟨(some 15), .mv (.t 0), none, none, [], none⟩,
  ⟨(some 16), .mv (.t 0), none, none, [], none⟩,
  ⟨(some 17), .lens (.t 16), none, none, [], none⟩,
  ⟨(some 18), .bin .sub (.t 17) (.k (.int .i64 4)), none, none, [], none⟩,
  ⟨(some 19), .sstr (.t 15) none (some (.t 18)), none, none, [], none⟩,
  ⟨(some 2), .mv (.t 19), none, none, [], none⟩,
  ⟨(some 3), .mv (.k (.int .i64 0)), none, none, [], none⟩]
def ac_ref02_Open_11 : AC := .reg l_ref02_Open_11
def ac_ref02_Open_12 : AC := .seq ac_ref02_Open_11 .ret
def ac_ref02_Open_13 : AC := .seq ac_ref02_Open_10 ac_ref02_Open_12
def ac_ref02_Open_14 : AC := .seq ac_ref02_Open_5 ac_ref02_Open_13
def ac_ref02_Open_15 : AC := .seq ac_ref02_Open_0 ac_ref02_Open_14
def ac_ref02_Open : AC := ac_ref02_Open_15
theorem comp_ref02_Open : compF Try.prog [] (drawR Try.prog [] Try.f37.ntmps) [] 1 Try.f37 = some (ac_ref02_Open, [.t 2, .t 3]) := by kernel_rfl
def U_ref02_Open := (And.intro (And.intro (And.intro (And.intro (And.intro @ac_ref02_Open.eq_1 (@mR _ _ ac_ref02_Open_0.eq_1)) (@mR _ _ ac_ref02_Open_1.eq_1)) (And.intro (And.intro (@mR _ _ ac_ref02_Open_2.eq_1) (@mU _ _ ac_ref02_Open_3.eq_1)) (@mU _ _ ac_ref02_Open_4.eq_1))) (And.intro (And.intro (And.intro (@mU _ _ ac_ref02_Open_5.eq_1) (@mR _ _ ac_ref02_Open_6.eq_1)) (@mR _ _ ac_ref02_Open_7.eq_1)) (And.intro (And.intro (@mU _ _ ac_ref02_Open_8.eq_1) (@mU _ _ ac_ref02_Open_9.eq_1)) (@mU _ _ ac_ref02_Open_10.eq_1)))) (And.intro (And.intro (And.intro (And.intro (@mR _ _ ac_ref02_Open_11.eq_1) (@mU _ _ ac_ref02_Open_12.eq_1)) (@mU _ _ ac_ref02_Open_13.eq_1)) (And.intro (And.intro (@mU _ _ ac_ref02_Open_14.eq_1) (@mU _ _ ac_ref02_Open_15.eq_1)) @l_ref02_Open_0.eq_1)) (And.intro (And.intro (And.intro @l_ref02_Open_1.eq_1 @l_ref02_Open_2.eq_1) @l_ref02_Open_6.eq_1) (And.intro @l_ref02_Open_7.eq_1 @l_ref02_Open_11.eq_1))))

/- scoria/scoriaref16.get -/
def l_ref16_get_0 : List AOp := [⟨(some 6), .mv (.k (.int .i64 0)), none, none, [], none⟩]
def ac_ref16_get_0 : AC := .reg l_ref16_get_0
def l_ref16_get_1 : List AOp := [⟨(some 10), .mv (.t 0), none, none, [], none⟩,
  ⟨(some 11), .mv (.t 1), none, none, [], none⟩,
  ⟨(some 12), .mv (.t 2), none, none, [], none⟩,
  ⟨(some 13), .call false 51 [(.t 10), (.t 11), (.t 12)], none, none, [], none⟩,
  ⟨(some 9), .mv (.t 13), none, none, [], none⟩,
  ⟨(some 14), .ext 0 (.t 9), none, none, [], none⟩,
  ⟨(some 15), .ext 1 (.t 9), none, none, [], none⟩,
  ⟨(some 7), .mv (.t 14), none, none, [], none⟩,
  ⟨(some 8), .mv (.t 15), none, none, [], none⟩]
def ac_ref16_get_1 : AC := .reg l_ref16_get_1
def l_ref16_get_2 : List AOp := [⟨(some 16), .mv (.t 7), none, none, [], none⟩,
  ⟨(some 17), .conv .i64 (.t 16), none, none, [], none⟩,
  ⟨(some 6), .mv (.t 17), none, none, [], none⟩]
def ac_ref16_get_2 : AC := .reg l_ref16_get_2
def ac_ref16_get_3 : AC := .seq ac_ref16_get_2 .ret
def ac_ref16_get_4 : AC := .seq ac_ref16_get_1 ac_ref16_get_3
def ac_ref16_get_5 : AC := .seq ac_ref16_get_0 ac_ref16_get_4
def ac_ref16_get : AC := ac_ref16_get_5
theorem comp_ref16_get : compF Try.prog [] (drawR Try.prog [] Try.f38.ntmps) [] 3 Try.f38 = some (ac_ref16_get, [.t 6]) := by kernel_rfl
def U_ref16_get := (And.intro (And.intro (And.intro (And.intro @ac_ref16_get.eq_1 (@mR _ _ ac_ref16_get_0.eq_1)) (@mR _ _ ac_ref16_get_1.eq_1)) (And.intro (@mR _ _ ac_ref16_get_2.eq_1) (@mU _ _ ac_ref16_get_3.eq_1))) (And.intro (And.intro (And.intro (@mU _ _ ac_ref16_get_4.eq_1) (@mU _ _ ac_ref16_get_5.eq_1)) @l_ref16_get_0.eq_1) (And.intro @l_ref16_get_1.eq_1 @l_ref16_get_2.eq_1)))

/- slices.ContainsFunc[[]int,int] -/
def l_slices_ContainsFunc_int_0 : List AOp := [⟨(some 4), .mv (.k (.bool false)), none, none, [], none⟩]
def ac_slices_ContainsFunc_int_0 : AC := .reg l_slices_ContainsFunc_int_0
def l_slices_ContainsFunc_int_1 : List AOp := [⟨(some 5), .mv (.t 0), none, none, [], none⟩,
  ⟨(some 6), .mv (.t 1), none, none, [], none⟩,
  ⟨(some 7), .call false 52 [(.t 5), (.t 6)], none, none, [], none⟩,
  ⟨(some 8), .bin .geq (.t 7) (.k (.int .i64 0)), none, none, [], none⟩,
  ⟨(some 4), .mv (.t 8), none, none, [], none⟩]
def ac_slices_ContainsFunc_int_1 : AC := .reg l_slices_ContainsFunc_int_1
def ac_slices_ContainsFunc_int_2 : AC := .seq ac_slices_ContainsFunc_int_1 .ret
def ac_slices_ContainsFunc_int_3 : AC := .seq ac_slices_ContainsFunc_int_0 ac_slices_ContainsFunc_int_2
def ac_slices_ContainsFunc_int : AC := ac_slices_ContainsFunc_int_3
theorem comp_slices_ContainsFunc_int : compF Try.prog [] (drawR Try.prog [] Try.f39.ntmps) [] 2 Try.f39 = some (ac_slices_ContainsFunc_int, [.t 4]) := by kernel_rfl
def U_slices_ContainsFunc_int := (And.intro (And.intro (And.intro @ac_slices_ContainsFunc_int.eq_1 (@mR _ _ ac_slices_ContainsFunc_int_0.eq_1)) (And.intro (@mR _ _ ac_slices_ContainsFunc_int_1.eq_1) (@mU _ _ ac_slices_ContainsFunc_int_2.eq_1))) (And.intro (And.intro (@mU _ _ ac_slices_ContainsFunc_int_3.eq_1) @l_slices_ContainsFunc_int_0.eq_1) @l_slices_ContainsFunc_int_1.eq_1))

/- scoria/field.wrong -/
def l_field_wrong_0 : List AOp := [⟨(some 2), .mv (.k (.bool false)), none, none, [], none⟩]
def ac_field_wrong_0 : AC := .reg l_field_wrong_0
def l_field_wrong_1 : List AOp := [⟨(some 3), .mv (.t 0), none, none, [], none⟩,
  ⟨(some 4), .call false 49 [(.t 3)], none, none, [], none⟩,
  ⟨(some 5), .un .not (.t 4), none, none, [], none⟩,
  ⟨(some 2), .mv (.t 5), none, none, [], none⟩]
def ac_field_wrong_1 : AC := .reg l_field_wrong_1
def ac_field_wrong_2 : AC := .seq ac_field_wrong_1 .ret
def ac_field_wrong_3 : AC := .seq ac_field_wrong_0 ac_field_wrong_2
def ac_field_wrong : AC := ac_field_wrong_3
theorem comp_field_wrong : compF Try.prog [] (drawR Try.prog [] Try.f40.ntmps) [] 1 Try.f40 = some (ac_field_wrong, [.t 2]) := by kernel_rfl
def U_field_wrong := (And.intro (And.intro (And.intro @ac_field_wrong.eq_1 (@mR _ _ ac_field_wrong_0.eq_1)) (And.intro (@mR _ _ ac_field_wrong_1.eq_1) (@mU _ _ ac_field_wrong_2.eq_1))) (And.intro (And.intro (@mU _ _ ac_field_wrong_3.eq_1) @l_field_wrong_0.eq_1) @l_field_wrong_1.eq_1))

/- scoria/field.fits -/
def l_field_fits_0 : List AOp := [⟨(some 4), .mv (.k (.bool false)), none, none, [], none⟩]
def ac_field_fits_0 : AC := .reg l_field_fits_0
def l_field_fits_1 : List AOp := [⟨(some 5), .mv (.t 1), none, none, [], none⟩,
  ⟨(some 6), .bin .eql (.t 5) (.k (.int .i64 8)), none, none, [], none⟩,
  ⟨(some 7), .mv (.t 6), none, none, [], none⟩,
  ⟨(some 8), .mv (.t 0), (some (7, false)), none, [], none⟩,
  ⟨(some 9), .mv (.t 1), (some (7, false)), none, [], none⟩,
  ⟨(some 10), .bin .mul (.k (.int .i64 8)) (.t 9), (some (7, false)), none, [], none⟩,
  ⟨(some 11), .bin .shr (.t 8) (.t 10), (some (7, false)), none, [], none⟩,
  ⟨(some 12), .bin .eql (.t 11) (.k (.int .u64 0)), (some (7, false)), none, [], none⟩,
  ⟨(some 13), .pick (.t 7) (.k (.bool true)) (.t 12), none, none, [], none⟩,
  ⟨(some 4), .mv (.t 13), none, none, [], none⟩]
def ac_field_fits_1 : AC := .reg l_field_fits_1
def ac_field_fits_2 : AC := .seq ac_field_fits_1 .ret
def ac_field_fits_3 : AC := .seq ac_field_fits_0 ac_field_fits_2
def ac_field_fits : AC := ac_field_fits_3
theorem comp_field_fits : compF Try.prog [] (drawR Try.prog [] Try.f41.ntmps) [] 2 Try.f41 = some (ac_field_fits, [.t 4]) := by kernel_rfl
def U_field_fits := (And.intro (And.intro (And.intro @ac_field_fits.eq_1 (@mR _ _ ac_field_fits_0.eq_1)) (And.intro (@mR _ _ ac_field_fits_1.eq_1) (@mU _ _ ac_field_fits_2.eq_1))) (And.intro (And.intro (@mU _ _ ac_field_fits_3.eq_1) @l_field_fits_0.eq_1) @l_field_fits_1.eq_1))

/- (*strings.Builder).WriteString -/
def l_strings_Builder_WriteString_0 : List AOp := [⟨(some 4), .mv (.k (.int .i64 0)), none, none, [], none⟩,
  ⟨(some 5), .mv (.k .nili), none, none, [], none⟩]
def ac_strings_Builder_WriteString_0 : AC := .reg l_strings_Builder_WriteString_0
def l_strings_Builder_WriteString_1 : List AOp := [⟨(some 6), .mv (.t 0), none, none, [], none⟩,
  ⟨(some 7), .icall 53 [(.t 6)], none, none, [], none⟩]
def ac_strings_Builder_WriteString_1 : AC := .reg l_strings_Builder_WriteString_1
def l_strings_Builder_WriteString_2 : List AOp := [⟨(some 8), .mv (.t 0), none, none, [], none⟩,
  ⟨(some 9), .mv (.t 0), none, none, [], none⟩,
  ⟨(some 10), .nilck (.t 9), none, none, [], none⟩,
  ⟨(some 11), .faddr 1 (.t 10), none, none, [], none⟩,
  ⟨(some 12), .load none (.t 11), none, none, [], none⟩,
  ⟨(some 13), .mv (.t 1), none, none, [], none⟩,
  ⟨(some 14), .apps 5 (.t 12) (.t 13), none, none, [], none⟩,
  ⟨(some 15), .nilck (.t 8), none, none, [], none⟩,
  ⟨(some 16), .faddr 1 (.t 15), none, none, [], none⟩,
  ⟨none, .store 1 (.t 16) (.t 14), none, none, [], none⟩]
def ac_strings_Builder_WriteString_2 : AC := .reg l_strings_Builder_WriteString_2
def l_strings_Builder_WriteString_3 : List AOp := [⟨(some 17), .mv (.t 1), none, none, [], none⟩,
  ⟨(some 18), .lens (.t 17), none, none, [], none⟩,
  ⟨(some 4), .mv (.t 18), none, none, [], none⟩,
  ⟨(some 5), .mv (.k .nili), none, none, [], none⟩]
def ac_strings_Builder_WriteString_3 : AC := .reg l_strings_Builder_WriteString_3
def ac_strings_Builder_WriteString_4 : AC := .seq ac_strings_Builder_WriteString_3 .ret
def ac_strings_Builder_WriteString_5 : AC := .seq ac_strings_Builder_WriteString_2 ac_strings_Builder_WriteString_4
def ac_strings_Builder_WriteString_6 : AC := .seq ac_strings_Builder_WriteString_1 ac_strings_Builder_WriteString_5
def ac_strings_Builder_WriteString_7 : AC := .seq ac_strings_Builder_WriteString_0 ac_strings_Builder_WriteString_6
def ac_strings_Builder_WriteString : AC := ac_strings_Builder_WriteString_7
theorem comp_strings_Builder_WriteString : compF Try.prog [1000053] (drawR Try.prog [1000053] Try.f42.ntmps) [] 2 Try.f42 = some (ac_strings_Builder_WriteString, [.t 4, .t 5]) := by kernel_rfl
def U_strings_Builder_WriteString := (And.intro (And.intro (And.intro (And.intro @ac_strings_Builder_WriteString.eq_1 (@mR _ _ ac_strings_Builder_WriteString_0.eq_1)) (And.intro (@mR _ _ ac_strings_Builder_WriteString_1.eq_1) (@mR _ _ ac_strings_Builder_WriteString_2.eq_1))) (And.intro (And.intro (@mR _ _ ac_strings_Builder_WriteString_3.eq_1) (@mU _ _ ac_strings_Builder_WriteString_4.eq_1)) (@mU _ _ ac_strings_Builder_WriteString_5.eq_1))) (And.intro (And.intro (And.intro (@mU _ _ ac_strings_Builder_WriteString_6.eq_1) (@mU _ _ ac_strings_Builder_WriteString_7.eq_1)) @l_strings_Builder_WriteString_0.eq_1) (And.intro (And.intro @l_strings_Builder_WriteString_1.eq_1 @l_strings_Builder_WriteString_2.eq_1) @l_strings_Builder_WriteString_3.eq_1)))

/- scoria/field.laid -/
def l_field_laid_0 : List AOp := [⟨(some 4), .mv (.k (.str [])), none, none, [], none⟩]
def ac_field_laid_0 : AC := .reg l_field_laid_0
def l_field_laid_1 : List AOp := [⟨(some 5), .alloc (List.replicate 8 (.int .u8 0)), none, none, [], none⟩]
def ac_field_laid_1 : AC := .reg l_field_laid_1
def l_field_laid_2 : List AOp := [⟨(some 6), .mv (.t 1), none, none, [], none⟩]
def ac_field_laid_2 : AC := .reg l_field_laid_2
def l_field_laid_3 : List AOp := [⟨(some 8), .bin .eql (.t 6) (.k (.int .i64 8)), none, none, [], none⟩,
  ⟨(some 7), .mv (.t 8), none, none, [], none⟩]
def ac_field_laid_3 : AC := .reg l_field_laid_3
def ac_field_laid_4 : AC := .cond (.t 7) (.exit 1) .skip
def ac_field_laid_5 : AC := .seq ac_field_laid_3 ac_field_laid_4
def l_field_laid_6 : List AOp := [⟨(some 10), .bin .eql (.t 6) (.k (.int .i64 7)), none, none, [], none⟩,
  ⟨(some 9), .mv (.t 10), none, none, [], none⟩]
def ac_field_laid_6 : AC := .reg l_field_laid_6
def ac_field_laid_7 : AC := .cond (.t 9) (.exit 2) .skip
def ac_field_laid_8 : AC := .seq ac_field_laid_6 ac_field_laid_7
def l_field_laid_9 : List AOp := [⟨(some 12), .bin .eql (.t 6) (.k (.int .i64 6)), none, none, [], none⟩,
  ⟨(some 11), .mv (.t 12), none, none, [], none⟩]
def ac_field_laid_9 : AC := .reg l_field_laid_9
def ac_field_laid_10 : AC := .cond (.t 11) (.exit 3) .skip
def ac_field_laid_11 : AC := .seq ac_field_laid_9 ac_field_laid_10
def l_field_laid_12 : List AOp := [⟨(some 14), .bin .eql (.t 6) (.k (.int .i64 5)), none, none, [], none⟩,
  ⟨(some 13), .mv (.t 14), none, none, [], none⟩]
def ac_field_laid_12 : AC := .reg l_field_laid_12
def ac_field_laid_13 : AC := .cond (.t 13) (.exit 4) .skip
def ac_field_laid_14 : AC := .seq ac_field_laid_12 ac_field_laid_13
def l_field_laid_15 : List AOp := [⟨(some 16), .bin .eql (.t 6) (.k (.int .i64 4)), none, none, [], none⟩,
  ⟨(some 15), .mv (.t 16), none, none, [], none⟩]
def ac_field_laid_15 : AC := .reg l_field_laid_15
def ac_field_laid_16 : AC := .cond (.t 15) (.exit 5) .skip
def ac_field_laid_17 : AC := .seq ac_field_laid_15 ac_field_laid_16
def l_field_laid_18 : List AOp := [⟨(some 18), .bin .eql (.t 6) (.k (.int .i64 3)), none, none, [], none⟩,
  ⟨(some 17), .mv (.t 18), none, none, [], none⟩]
def ac_field_laid_18 : AC := .reg l_field_laid_18
def ac_field_laid_19 : AC := .cond (.t 17) (.exit 6) .skip
def ac_field_laid_20 : AC := .seq ac_field_laid_18 ac_field_laid_19
def l_field_laid_21 : List AOp := [⟨(some 20), .bin .eql (.t 6) (.k (.int .i64 2)), none, none, [], none⟩,
  ⟨(some 19), .mv (.t 20), none, none, [], none⟩]
def ac_field_laid_21 : AC := .reg l_field_laid_21
def ac_field_laid_22 : AC := .cond (.t 19) (.exit 7) .skip
def ac_field_laid_23 : AC := .seq ac_field_laid_21 ac_field_laid_22
def l_field_laid_24 : List AOp := [⟨(some 22), .bin .eql (.t 6) (.k (.int .i64 1)), none, none, [], none⟩,
  ⟨(some 21), .mv (.t 22), none, none, [], none⟩]
def ac_field_laid_24 : AC := .reg l_field_laid_24
def ac_field_laid_25 : AC := .cond (.t 21) (.exit 8) .skip
def ac_field_laid_26 : AC := .seq ac_field_laid_24 ac_field_laid_25
def ac_field_laid_27 : AC := .seq ac_field_laid_23 ac_field_laid_26
def ac_field_laid_28 : AC := .seq ac_field_laid_20 ac_field_laid_27
def ac_field_laid_29 : AC := .seq ac_field_laid_17 ac_field_laid_28
def ac_field_laid_30 : AC := .seq ac_field_laid_14 ac_field_laid_29
def ac_field_laid_31 : AC := .seq ac_field_laid_11 ac_field_laid_30
def ac_field_laid_32 : AC := .seq ac_field_laid_8 ac_field_laid_31
def ac_field_laid_33 : AC := .seq ac_field_laid_5 ac_field_laid_32
def ac_field_laid_34 : AC := .seq ac_field_laid_33 (.exit 0)
def ac_field_laid_35 : AC := .block 1 ac_field_laid_34
def l_field_laid_36 : List AOp := [⟨(some 23), .mv (.t 0), none, none, [], none⟩,
  ⟨(some 24), .bin .shr (.t 23) (.k (.int .u64 56)), none, none, [], none⟩,
  ⟨(some 25), .conv .u8 (.t 24), none, none, [], none⟩,
  ⟨(some 26), .iarr 1 8 (.t 5) (.k (.int .i64 7)), none, none, [], none⟩,
  ⟨none, .store 1 (.t 26) (.t 25), none, none, [], none⟩]
def ac_field_laid_36 : AC := .reg l_field_laid_36
def ac_field_laid_37 : AC := .seq ac_field_laid_35 ac_field_laid_36
def ac_field_laid_38 : AC := .block 2 ac_field_laid_37
def l_field_laid_39 : List AOp := [⟨(some 27), .mv (.t 0), none, none, [], none⟩,
  ⟨(some 28), .bin .shr (.t 27) (.k (.int .u64 48)), none, none, [], none⟩,
  ⟨(some 29), .conv .u8 (.t 28), none, none, [], none⟩,
  ⟨(some 30), .iarr 1 8 (.t 5) (.k (.int .i64 6)), none, none, [], none⟩,
  ⟨none, .store 1 (.t 30) (.t 29), none, none, [], none⟩]
def ac_field_laid_39 : AC := .reg l_field_laid_39
def ac_field_laid_40 : AC := .seq ac_field_laid_38 ac_field_laid_39
def ac_field_laid_41 : AC := .block 3 ac_field_laid_40
def l_field_laid_42 : List AOp := [⟨(some 31), .mv (.t 0), none, none, [], none⟩,
  ⟨(some 32), .bin .shr (.t 31) (.k (.int .u64 40)), none, none, [], none⟩,
  ⟨(some 33), .conv .u8 (.t 32), none, none, [], none⟩,
  ⟨(some 34), .iarr 1 8 (.t 5) (.k (.int .i64 5)), none, none, [], none⟩,
  ⟨none, .store 1 (.t 34) (.t 33), none, none, [], none⟩]
def ac_field_laid_42 : AC := .reg l_field_laid_42
def ac_field_laid_43 : AC := .seq ac_field_laid_41 ac_field_laid_42
def ac_field_laid_44 : AC := .block 4 ac_field_laid_43
def l_field_laid_45 : List AOp := [⟨(some 35), .mv (.t 0), none, none, [], none⟩,
  ⟨(some 36), .bin .shr (.t 35) (.k (.int .u64 32)), none, none, [], none⟩,
  ⟨(some 37), .conv .u8 (.t 36), none, none, [], none⟩,
  ⟨(some 38), .iarr 1 8 (.t 5) (.k (.int .i64 4)), none, none, [], none⟩,
  ⟨none, .store 1 (.t 38) (.t 37), none, none, [], none⟩]
def ac_field_laid_45 : AC := .reg l_field_laid_45
def ac_field_laid_46 : AC := .seq ac_field_laid_44 ac_field_laid_45
def ac_field_laid_47 : AC := .block 5 ac_field_laid_46
def l_field_laid_48 : List AOp := [⟨(some 39), .mv (.t 0), none, none, [], none⟩,
  ⟨(some 40), .bin .shr (.t 39) (.k (.int .u64 24)), none, none, [], none⟩,
  ⟨(some 41), .conv .u8 (.t 40), none, none, [], none⟩,
  ⟨(some 42), .iarr 1 8 (.t 5) (.k (.int .i64 3)), none, none, [], none⟩,
  ⟨none, .store 1 (.t 42) (.t 41), none, none, [], none⟩]
def ac_field_laid_48 : AC := .reg l_field_laid_48
def ac_field_laid_49 : AC := .seq ac_field_laid_47 ac_field_laid_48
def ac_field_laid_50 : AC := .block 6 ac_field_laid_49
def l_field_laid_51 : List AOp := [⟨(some 43), .mv (.t 0), none, none, [], none⟩,
  ⟨(some 44), .bin .shr (.t 43) (.k (.int .u64 16)), none, none, [], none⟩,
  ⟨(some 45), .conv .u8 (.t 44), none, none, [], none⟩,
  ⟨(some 46), .iarr 1 8 (.t 5) (.k (.int .i64 2)), none, none, [], none⟩,
  ⟨none, .store 1 (.t 46) (.t 45), none, none, [], none⟩]
def ac_field_laid_51 : AC := .reg l_field_laid_51
def ac_field_laid_52 : AC := .seq ac_field_laid_50 ac_field_laid_51
def ac_field_laid_53 : AC := .block 7 ac_field_laid_52
def l_field_laid_54 : List AOp := [⟨(some 47), .mv (.t 0), none, none, [], none⟩,
  ⟨(some 48), .bin .shr (.t 47) (.k (.int .u64 8)), none, none, [], none⟩,
  ⟨(some 49), .conv .u8 (.t 48), none, none, [], none⟩,
  ⟨(some 50), .iarr 1 8 (.t 5) (.k (.int .i64 1)), none, none, [], none⟩,
  ⟨none, .store 1 (.t 50) (.t 49), none, none, [], none⟩]
def ac_field_laid_54 : AC := .reg l_field_laid_54
def ac_field_laid_55 : AC := .seq ac_field_laid_53 ac_field_laid_54
def ac_field_laid_56 : AC := .block 8 ac_field_laid_55
def l_field_laid_57 : List AOp := [⟨(some 51), .mv (.t 0), none, none, [], none⟩,
  ⟨(some 52), .conv .u8 (.t 51), none, none, [], none⟩,
  ⟨(some 53), .iarr 1 8 (.t 5) (.k (.int .i64 0)), none, none, [], none⟩,
  ⟨none, .store 1 (.t 53) (.t 52), none, none, [], none⟩]
def ac_field_laid_57 : AC := .reg l_field_laid_57
def ac_field_laid_58 : AC := .seq ac_field_laid_57 (.exit 0)
def ac_field_laid_59 : AC := .seq ac_field_laid_56 ac_field_laid_58
def ac_field_laid_60 : AC := .block 0 ac_field_laid_59
def ac_field_laid_61 : AC := .seq ac_field_laid_2 ac_field_laid_60
def l_field_laid_62 : List AOp := [⟨(some 54), .mv (.t 1), none, none, [], none⟩,
  ⟨(some 55), .sarr 1 8 (.t 5) none (some (.t 54)), none, none, [], none⟩,
  ⟨(some 56), .b2s (.t 55), none, none, [], none⟩,
  ⟨(some 4), .mv (.t 56), none, none, [], none⟩]
def ac_field_laid_62 : AC := .reg l_field_laid_62
def ac_field_laid_63 : AC := .seq ac_field_laid_62 .ret
def ac_field_laid_64 : AC := .seq ac_field_laid_61 ac_field_laid_63
def ac_field_laid_65 : AC := .seq ac_field_laid_1 ac_field_laid_64
def ac_field_laid_66 : AC := .seq ac_field_laid_0 ac_field_laid_65
def ac_field_laid : AC := ac_field_laid_66
theorem comp_field_laid : compF Try.prog [] (drawR Try.prog [] Try.f43.ntmps) [] 2 Try.f43 = some (ac_field_laid, [.t 4]) := by kernel_rfl
def U_field_laid := (And.intro (And.intro (And.intro (And.intro (And.intro (And.intro (And.intro @ac_field_laid.eq_1 (@mR _ _ ac_field_laid_0.eq_1)) (@mR _ _ ac_field_laid_1.eq_1)) (And.intro (And.intro (@mR _ _ ac_field_laid_2.eq_1) (@mR _ _ ac_field_laid_3.eq_1)) (@mU _ _ ac_field_laid_4.eq_1))) (And.intro (And.intro (And.intro (@mU _ _ ac_field_laid_5.eq_1) (@mR _ _ ac_field_laid_6.eq_1)) (@mU _ _ ac_field_laid_7.eq_1)) (And.intro (@mU _ _ ac_field_laid_8.eq_1) (@mR _ _ ac_field_laid_9.eq_1)))) (And.intro (And.intro (And.intro (And.intro (@mU _ _ ac_field_laid_10.eq_1) (@mU _ _ ac_field_laid_11.eq_1)) (@mR _ _ ac_field_laid_12.eq_1)) (And.intro (And.intro (@mU _ _ ac_field_laid_13.eq_1) (@mU _ _ ac_field_laid_14.eq_1)) (@mR _ _ ac_field_laid_15.eq_1))) (And.intro (And.intro (And.intro (@mU _ _ ac_field_laid_16.eq_1) (@mU _ _ ac_field_laid_17.eq_1)) (@mR _ _ ac_field_laid_18.eq_1)) (And.intro (@mU _ _ ac_field_laid_19.eq_1) (@mU _ _ ac_field_laid_20.eq_1))))) (And.intro (And.intro (And.intro (And.intro (And.intro (@mR _ _ ac_field_laid_21.eq_1) (@mU _ _ ac_field_laid_22.eq_1)) (@mU _ _ ac_field_laid_23.eq_1)) (And.intro (And.intro (@mR _ _ ac_field_laid_24.eq_1) (@mU _ _ ac_field_laid_25.eq_1)) (@mU _ _ ac_field_laid_26.eq_1))) (And.intro (And.intro (And.intro (@mU _ _ ac_field_laid_27.eq_1) (@mU _ _ ac_field_laid_28.eq_1)) (@mU _ _ ac_field_laid_29.eq_1)) (And.intro (@mU _ _ ac_field_laid_30.eq_1) (@mU _ _ ac_field_laid_31.eq_1)))) (And.intro (And.intro (And.intro (And.intro (@mU _ _ ac_field_laid_32.eq_1) (@mU _ _ ac_field_laid_33.eq_1)) (@mU _ _ ac_field_laid_34.eq_1)) (And.intro (And.intro (@mU _ _ ac_field_laid_35.eq_1) (@mR _ _ ac_field_laid_36.eq_1)) (@mU _ _ ac_field_laid_37.eq_1))) (And.intro (And.intro (And.intro (@mU _ _ ac_field_laid_38.eq_1) (@mR _ _ ac_field_laid_39.eq_1)) (@mU _ _ ac_field_laid_40.eq_1)) (And.intro (@mU _ _ ac_field_laid_41.eq_1) (@mR _ _ ac_field_laid_42.eq_1)))))) (And.intro (And.intro (And.intro (And.intro (And.intro (And.intro (@mU _ _ ac_field_laid_43.eq_1) (@mU _ _ ac_field_laid_44.eq_1)) (@mR _ _ ac_field_laid_45.eq_1)) (And.intro (And.intro (@mU _ _ ac_field_laid_46.eq_1) (@mU _ _ ac_field_laid_47.eq_1)) (@mR _ _ ac_field_laid_48.eq_1))) (And.intro (And.intro (And.intro (@mU _ _ ac_field_laid_49.eq_1) (@mU _ _ ac_field_laid_50.eq_1)) (@mR _ _ ac_field_laid_51.eq_1)) (And.intro (@mU _ _ ac_field_laid_52.eq_1) (@mU _ _ ac_field_laid_53.eq_1)))) (And.intro (And.intro (And.intro (And.intro (@mR _ _ ac_field_laid_54.eq_1) (@mU _ _ ac_field_laid_55.eq_1)) (@mU _ _ ac_field_laid_56.eq_1)) (And.intro (And.intro (@mR _ _ ac_field_laid_57.eq_1) (@mU _ _ ac_field_laid_58.eq_1)) (@mU _ _ ac_field_laid_59.eq_1))) (And.intro (And.intro (And.intro (@mU _ _ ac_field_laid_60.eq_1) (@mU _ _ ac_field_laid_61.eq_1)) (@mR _ _ ac_field_laid_62.eq_1)) (And.intro (@mU _ _ ac_field_laid_63.eq_1) (@mU _ _ ac_field_laid_64.eq_1))))) (And.intro (And.intro (And.intro (And.intro (And.intro (@mU _ _ ac_field_laid_65.eq_1) (@mU _ _ ac_field_laid_66.eq_1)) @l_field_laid_0.eq_1) (And.intro (And.intro @l_field_laid_1.eq_1 @l_field_laid_2.eq_1) @l_field_laid_3.eq_1)) (And.intro (And.intro (And.intro @l_field_laid_6.eq_1 @l_field_laid_9.eq_1) @l_field_laid_12.eq_1) (And.intro @l_field_laid_15.eq_1 @l_field_laid_18.eq_1))) (And.intro (And.intro (And.intro (And.intro @l_field_laid_21.eq_1 @l_field_laid_24.eq_1) @l_field_laid_36.eq_1) (And.intro (And.intro @l_field_laid_39.eq_1 @l_field_laid_42.eq_1) @l_field_laid_45.eq_1)) (And.intro (And.intro (And.intro @l_field_laid_48.eq_1 @l_field_laid_51.eq_1) @l_field_laid_54.eq_1) (And.intro @l_field_laid_57.eq_1 @l_field_laid_62.eq_1))))))

/- (*strings.Builder).String -/
def l_strings_Builder_String_0 : List AOp := [⟨(some 2), .mv (.k (.str [])), none, none, [], none⟩]
def ac_strings_Builder_String_0 : AC := .reg l_strings_Builder_String_0
def l_strings_Builder_String_1 : List AOp := [⟨(some 3), .mv (.t 0), none, none, [], none⟩,
  ⟨(some 4), .nilck (.t 3), none, none, [], none⟩,
  ⟨(some 5), .faddr 1 (.t 4), none, none, [], none⟩,
  ⟨(some 6), .load none (.t 5), none, none, [], none⟩,
  ⟨(some 7), .usd (.t 6), none, none, [], none⟩,
  ⟨(some 8), .mv (.t 0), none, none, [], none⟩,
  ⟨(some 9), .nilck (.t 8), none, none, [], none⟩,
  ⟨(some 10), .faddr 1 (.t 9), none, none, [], none⟩,
  ⟨(some 11), .load none (.t 10), none, none, [], none⟩,
  ⟨(some 12), .len (.t 11), none, none, [], none⟩,
  ⟨(some 13), .ust 5 (.t 7) (.t 12), none, none, [], none⟩,
  ⟨(some 2), .mv (.t 13), none, none, [], none⟩]
def ac_strings_Builder_String_1 : AC := .dreg 0 l_strings_Builder_String_1
def ac_strings_Builder_String_2 : AC := .seq ac_strings_Builder_String_1 .ret
def ac_strings_Builder_String_3 : AC := .seq ac_strings_Builder_String_0 ac_strings_Builder_String_2
def ac_strings_Builder_String : AC := ac_strings_Builder_String_3
theorem comp_strings_Builder_String : compF Try.prog [] (drawR Try.prog [] Try.f44.ntmps) [] 1 Try.f44 = some (ac_strings_Builder_String, [.t 2]) := by kernel_rfl
def U_strings_Builder_String := (And.intro (And.intro (And.intro @ac_strings_Builder_String.eq_1 (@mR _ _ ac_strings_Builder_String_0.eq_1)) (And.intro (@mD _ _ _ ac_strings_Builder_String_1.eq_1) (@mU _ _ ac_strings_Builder_String_2.eq_1))) (And.intro (And.intro (@mU _ _ ac_strings_Builder_String_3.eq_1) @l_strings_Builder_String_0.eq_1) @l_strings_Builder_String_1.eq_1))

/- scoria/check.Sum -/
def l_check_Sum_0 : List AOp := [⟨(some 2), .mv (.k (.int .u32 0)), none, none, [], none⟩]
def ac_check_Sum_0 : AC := .reg l_check_Sum_0
def l_check_Sum_1 : List AOp := [⟨(some 3), .mv (.t 0), none, none, [], none⟩,
  ⟨(some 4), .call false 54 [(.k (.int .u32 0)), (.t 3)], none, none, [], none⟩,
  ⟨(some 2), .mv (.t 4), none, none, [], none⟩]
def ac_check_Sum_1 : AC := .reg l_check_Sum_1
def ac_check_Sum_2 : AC := .seq ac_check_Sum_1 .ret
def ac_check_Sum_3 : AC := .seq ac_check_Sum_0 ac_check_Sum_2
def ac_check_Sum : AC := ac_check_Sum_3
theorem comp_check_Sum : compF Try.prog [] (drawR Try.prog [] Try.f45.ntmps) [] 1 Try.f45 = some (ac_check_Sum, [.t 2]) := by kernel_rfl
def U_check_Sum := (And.intro (And.intro (And.intro @ac_check_Sum.eq_1 (@mR _ _ ac_check_Sum_0.eq_1)) (And.intro (@mR _ _ ac_check_Sum_1.eq_1) (@mU _ _ ac_check_Sum_2.eq_1))) (And.intro (And.intro (@mU _ _ ac_check_Sum_3.eq_1) @l_check_Sum_0.eq_1) @l_check_Sum_1.eq_1))

/- scoria/scoriaref16.in -/
def l_ref16_in_0 : List AOp := [⟨(some 2), .mv (.k (.bool false)), none, none, [], none⟩]
def ac_ref16_in_0 : AC := .reg l_ref16_in_0
def l_ref16_in_1 : List AOp := [⟨(some 3), .mv (.t 0), none, none, [], none⟩,
  ⟨(some 4), .bin .geq (.t 3) (.k (.int .i64 0)), none, none, [], none⟩,
  ⟨(some 5), .mv (.t 4), none, none, [], none⟩,
  ⟨(some 6), .mv (.t 0), (some (5, true)), none, [], none⟩,
  ⟨(some 7), .bin .leq (.t 6) (.k (.int .i64 4294967295)), (some (5, true)), none, [], none⟩,
  ⟨(some 8), .pick (.t 5) (.t 7) (.k (.bool false)), none, none, [], none⟩,
  ⟨(some 2), .mv (.t 8), none, none, [], none⟩]
def ac_ref16_in_1 : AC := .reg l_ref16_in_1
def ac_ref16_in_2 : AC := .seq ac_ref16_in_1 .ret
def ac_ref16_in_3 : AC := .seq ac_ref16_in_0 ac_ref16_in_2
def ac_ref16_in : AC := ac_ref16_in_3
theorem comp_ref16_in : compF Try.prog [] (drawR Try.prog [] Try.f46.ntmps) [] 1 Try.f46 = some (ac_ref16_in, [.t 2]) := by kernel_rfl
def U_ref16_in := (And.intro (And.intro (And.intro @ac_ref16_in.eq_1 (@mR _ _ ac_ref16_in_0.eq_1)) (And.intro (@mR _ _ ac_ref16_in_1.eq_1) (@mU _ _ ac_ref16_in_2.eq_1))) (And.intro (And.intro (@mU _ _ ac_ref16_in_3.eq_1) @l_ref16_in_0.eq_1) @l_ref16_in_1.eq_1))

/- scoria/scoriaref02.Sum -/
def l_ref02_Sum_0 : List AOp := [⟨(some 2), .mv (.k (.int .u32 0)), none, none, [], none⟩]
def ac_ref02_Sum_0 : AC := .reg l_ref02_Sum_0
def l_ref02_Sum_1 : List AOp := [⟨(some 3), .mv (.t 0), none, none, [], none⟩,
  ⟨(some 4), .call false 55 [(.k (.int .u32 4294967295)), (.t 3)], none, none, [], none⟩,
  ⟨(some 5), .bin .xor (.t 4) (.k (.int .u32 4294967295)), none, none, [], none⟩,
  ⟨(some 2), .mv (.t 5), none, none, [], none⟩]
def ac_ref02_Sum_1 : AC := .reg l_ref02_Sum_1
def ac_ref02_Sum_2 : AC := .seq ac_ref02_Sum_1 .ret
def ac_ref02_Sum_3 : AC := .seq ac_ref02_Sum_0 ac_ref02_Sum_2
def ac_ref02_Sum : AC := ac_ref02_Sum_3
theorem comp_ref02_Sum : compF Try.prog [] (drawR Try.prog [] Try.f47.ntmps) [] 1 Try.f47 = some (ac_ref02_Sum, [.t 2]) := by kernel_rfl
def U_ref02_Sum := (And.intro (And.intro (And.intro @ac_ref02_Sum.eq_1 (@mR _ _ ac_ref02_Sum_0.eq_1)) (And.intro (@mR _ _ ac_ref02_Sum_1.eq_1) (@mU _ _ ac_ref02_Sum_2.eq_1))) (And.intro (And.intro (@mU _ _ ac_ref02_Sum_3.eq_1) @l_ref02_Sum_0.eq_1) @l_ref02_Sum_1.eq_1))

/- scoria/scoriaref01.Put -/
def l_ref01_Put_0 : List AOp := [⟨(some 4), .mv (.k (.str [])), none, none, [], none⟩,
  ⟨(some 5), .mv (.k (.int .i64 0)), none, none, [], none⟩]
def ac_ref01_Put_0 : AC := .reg l_ref01_Put_0
def l_ref01_Put_1 : List AOp := [⟨(some 8), .mv (.t 1), none, none, [], none⟩,
  ⟨(some 9), .bin .lss (.t 8) (.k (.int .i64 1)), none, none, [], none⟩,
  ⟨(some 10), .mv (.t 9), none, none, [], none⟩,
  ⟨(some 11), .mv (.t 1), (some (10, false)), none, [], none⟩,
  ⟨(some 12), .bin .gtr (.t 11) (.k (.int .i64 8)), (some (10, false)), none, [], none⟩,
  ⟨(some 13), .pick (.t 10) (.k (.bool true)) (.t 12), none, none, [], none⟩]
def ac_ref01_Put_1 : AC := .reg l_ref01_Put_1
def l_ref01_Put_2 : List AOp := [⟨(some 4), .mv (.k (.str [])), none, none, [], none⟩,
  ⟨(some 5), .mv (.k (.int .i64 1)), none, none, [], none⟩]
def ac_ref01_Put_2 : AC := .reg l_ref01_Put_2
def ac_ref01_Put_3 : AC := .seq ac_ref01_Put_2 .ret
def ac_ref01_Put_4 : AC := .cond (.t 13) ac_ref01_Put_3 .skip
def ac_ref01_Put_5 : AC := .seq ac_ref01_Put_1 ac_ref01_Put_4
def l_ref01_Put_6 : List AOp := [⟨(some 15), .mv (.t 0), none, none, [], none⟩,
  ⟨(some 16), .mv (.t 1), none, none, [], none⟩,
  ⟨(some 17), .call false 56 [(.t 15), (.t 16)], none, none, [], none⟩,
  ⟨(some 14), .mv (.t 17), none, none, [], none⟩,
  ⟨(some 18), .ext 0 (.t 14), none, none, [], none⟩,
  ⟨(some 19), .ext 1 (.t 14), none, none, [], none⟩,
  ⟨(some 6), .mv (.t 18), none, none, [], none⟩,
  ⟨(some 7), .mv (.t 19), none, none, [], none⟩]
def ac_ref01_Put_6 : AC := .reg l_ref01_Put_6
def l_ref01_Put_7 : List AOp := [⟨(some 20), .mv (.t 7), none, none, [], none⟩,
  ⟨(some 21), .un .not (.t 20), none, none, [], none⟩]
def ac_ref01_Put_7 : AC := .reg l_ref01_Put_7
def l_ref01_Put_8 : List AOp := [⟨(some 4), .mv (.k (.str [])), none, none, [], none⟩,
  ⟨(some 5), .mv (.k (.int .i64 2)), none, none, [], none⟩]
def ac_ref01_Put_8 : AC := .reg l_ref01_Put_8
def ac_ref01_Put_9 : AC := .seq ac_ref01_Put_8 .ret
def ac_ref01_Put_10 : AC := .cond (.t 21) ac_ref01_Put_9 .skip
def ac_ref01_Put_11 : AC := .seq ac_ref01_Put_7 ac_ref01_Put_10
def l_ref01_Put_12 : List AOp := [⟨(some 22), .mv (.t 6), none, none, [], none⟩,
  ⟨(some 4), .mv (.t 22), none, none, [], none⟩,
  ⟨(some 5), .mv (.k (.int .i64 0)), none, none, [], none⟩]
def ac_ref01_Put_12 : AC := .reg l_ref01_Put_12
def ac_ref01_Put_13 : AC := .seq ac_ref01_Put_12 .ret
def ac_ref01_Put_14 : AC := .seq ac_ref01_Put_11 ac_ref01_Put_13
def ac_ref01_Put_15 : AC := .seq ac_ref01_Put_6 ac_ref01_Put_14
def ac_ref01_Put_16 : AC := .seq ac_ref01_Put_5 ac_ref01_Put_15
def ac_ref01_Put_17 : AC := .seq ac_ref01_Put_0 ac_ref01_Put_16
def ac_ref01_Put : AC := ac_ref01_Put_17
theorem comp_ref01_Put : compF Try.prog [] (drawR Try.prog [] Try.f48.ntmps) [] 2 Try.f48 = some (ac_ref01_Put, [.t 4, .t 5]) := by kernel_rfl
def U_ref01_Put := (And.intro (And.intro (And.intro (And.intro (And.intro @ac_ref01_Put.eq_1 (@mR _ _ ac_ref01_Put_0.eq_1)) (And.intro (@mR _ _ ac_ref01_Put_1.eq_1) (@mR _ _ ac_ref01_Put_2.eq_1))) (And.intro (And.intro (@mU _ _ ac_ref01_Put_3.eq_1) (@mU _ _ ac_ref01_Put_4.eq_1)) (@mU _ _ ac_ref01_Put_5.eq_1))) (And.intro (And.intro (And.intro (@mR _ _ ac_ref01_Put_6.eq_1) (@mR _ _ ac_ref01_Put_7.eq_1)) (@mR _ _ ac_ref01_Put_8.eq_1)) (And.intro (And.intro (@mU _ _ ac_ref01_Put_9.eq_1) (@mU _ _ ac_ref01_Put_10.eq_1)) (@mU _ _ ac_ref01_Put_11.eq_1)))) (And.intro (And.intro (And.intro (And.intro (@mR _ _ ac_ref01_Put_12.eq_1) (@mU _ _ ac_ref01_Put_13.eq_1)) (And.intro (@mU _ _ ac_ref01_Put_14.eq_1) (@mU _ _ ac_ref01_Put_15.eq_1))) (And.intro (And.intro (@mU _ _ ac_ref01_Put_16.eq_1) (@mU _ _ ac_ref01_Put_17.eq_1)) @l_ref01_Put_0.eq_1)) (And.intro (And.intro (And.intro @l_ref01_Put_1.eq_1 @l_ref01_Put_2.eq_1) @l_ref01_Put_6.eq_1) (And.intro (And.intro @l_ref01_Put_7.eq_1 @l_ref01_Put_8.eq_1) @l_ref01_Put_12.eq_1))))

/- scoria/field.width -/
def l_field_width_0 : List AOp := [⟨(some 2), .mv (.k (.bool false)), none, none, [], none⟩]
def ac_field_width_0 : AC := .reg l_field_width_0
def l_field_width_1 : List AOp := [⟨(some 3), .mv (.t 0), none, none, [], none⟩,
  ⟨(some 4), .bin .geq (.t 3) (.k (.int .i64 1)), none, none, [], none⟩,
  ⟨(some 5), .mv (.t 4), none, none, [], none⟩,
  ⟨(some 6), .mv (.t 0), (some (5, true)), none, [], none⟩,
  ⟨(some 7), .bin .leq (.t 6) (.k (.int .i64 8)), (some (5, true)), none, [], none⟩,
  ⟨(some 8), .pick (.t 5) (.t 7) (.k (.bool false)), none, none, [], none⟩,
  ⟨(some 2), .mv (.t 8), none, none, [], none⟩]
def ac_field_width_1 : AC := .reg l_field_width_1
def ac_field_width_2 : AC := .seq ac_field_width_1 .ret
def ac_field_width_3 : AC := .seq ac_field_width_0 ac_field_width_2
def ac_field_width : AC := ac_field_width_3
theorem comp_field_width : compF Try.prog [] (drawR Try.prog [] Try.f49.ntmps) [] 1 Try.f49 = some (ac_field_width, [.t 2]) := by kernel_rfl
def U_field_width := (And.intro (And.intro (And.intro @ac_field_width.eq_1 (@mR _ _ ac_field_width_0.eq_1)) (And.intro (@mR _ _ ac_field_width_1.eq_1) (@mU _ _ ac_field_width_2.eq_1))) (And.intro (And.intro (@mU _ _ ac_field_width_3.eq_1) @l_field_width_0.eq_1) @l_field_width_1.eq_1))

/- scoria/field.Get -/
def l_field_Get_0 : List AOp := [⟨(some 6), .mv (.k (.int .u64 0)), none, none, [], none⟩,
  ⟨(some 7), .mv (.k (.int .i64 0)), none, none, [], none⟩]
def ac_field_Get_0 : AC := .reg l_field_Get_0
def l_field_Get_1 : List AOp := [⟨(some 11), .mv (.t 2), none, none, [], none⟩,
  ⟨(some 12), .call false 49 [(.t 11)], none, none, [], none⟩,
  ⟨(some 13), .un .not (.t 12), none, none, [], none⟩,
  ⟨(some 14), .mv (.t 13), none, none, [], none⟩,
  ⟨(some 15), .mv (.t 1), (some (14, false)), none, [], none⟩,
  ⟨(some 16), .bin .lss (.t 15) (.k (.int .i64 0)), (some (14, false)), none, [], none⟩,
  ⟨(some 17), .pick (.t 14) (.k (.bool true)) (.t 16), none, none, [], none⟩,
  ⟨(some 10), .mv (.t 17), none, none, [], none⟩]
def ac_field_Get_1 : AC := .reg l_field_Get_1
def l_field_Get_2 : List AOp := [⟨(some 6), .mv (.k (.int .u64 0)), none, none, [], none⟩,
  ⟨(some 7), .mv (.k (.int .i64 1)), none, none, [], none⟩]
def ac_field_Get_2 : AC := .reg l_field_Get_2
def ac_field_Get_3 : AC := .seq ac_field_Get_2 .ret
def l_field_Get_4 : List AOp := [⟨(some 19), .mv (.t 1), none, none, [], none⟩,
  ⟨(some 20), .mv (.t 0), none, none, [], none⟩,
  ⟨(some 21), .lens (.t 20), none, none, [], none⟩,
  ⟨(some 22), .bin .gtr (.t 19) (.t 21), none, none, [], none⟩,
  ⟨(some 23), .mv (.t 22), none, none, [], none⟩,
  ⟨(some 24), .mv (.t 0), (some (23, false)), none, [], none⟩,
  ⟨(some 25), .lens (.t 24), (some (23, false)), none, [], none⟩,
  ⟨(some 26), .mv (.t 1), (some (23, false)), none, [], none⟩,
  ⟨(some 27), .bin .sub (.t 25) (.t 26), (some (23, false)), none, [], none⟩,
  ⟨(some 28), .mv (.t 2), (some (23, false)), none, [], none⟩,
  ⟨(some 29), .bin .lss (.t 27) (.t 28), (some (23, false)), none, [], none⟩,
  ⟨(some 30), .pick (.t 23) (.k (.bool true)) (.t 29), none, none, [], none⟩,
  ⟨(some 18), .mv (.t 30), none, none, [], none⟩]
def ac_field_Get_4 : AC := .reg l_field_Get_4
def l_field_Get_5 : List AOp := [⟨(some 6), .mv (.k (.int .u64 0)), none, none, [], none⟩,
  ⟨(some 7), .mv (.k (.int .i64 5)), none, none, [], none⟩]
def ac_field_Get_5 : AC := .reg l_field_Get_5
def ac_field_Get_6 : AC := .seq ac_field_Get_5 .ret
def ac_field_Get_7 : AC := .cond (.t 18) ac_field_Get_6 .skip
def ac_field_Get_8 : AC := .seq ac_field_Get_4 ac_field_Get_7
def ac_field_Get_9 : AC := .cond (.t 10) ac_field_Get_3 ac_field_Get_8
def ac_field_Get_10 : AC := .seq ac_field_Get_1 ac_field_Get_9
def ac_field_Get_11 : AC := .block 0 ac_field_Get_10
def l_field_Get_12 : List AOp := [⟨(some 8), .mv (.k (.int .u64 0)), none, none, [], none⟩]
def ac_field_Get_12 : AC := .reg l_field_Get_12
def l_field_Get_13 : List AOp := [⟨(some 31), .mv (.t 2), none, none, [], none⟩,
  ⟨(some 32), .bin .sub (.t 31) (.k (.int .i64 1)), none, none, [], none⟩,
  ⟨(some 9), .mv (.t 32), none, none, [], none⟩]
def ac_field_Get_13 : AC := .reg l_field_Get_13
def l_field_Get_14 : List AOp := [⟨(some 33), .mv (.t 9), none, none, [], none⟩,
  ⟨(some 34), .bin .geq (.t 33) (.k (.int .i64 0)), none, none, [], none⟩]
def ac_field_Get_14 : AC := .reg l_field_Get_14
def ac_field_Get_15 : AC := .cond (.t 34) .skip (.exit 1)
def ac_field_Get_16 : AC := .seq ac_field_Get_14 ac_field_Get_15
def l_field_Get_17 : List AOp := [⟨(some 37), .mv (.t 8), none, none, [], none⟩,
  ⟨(some 38), .bin .shl (.t 37) (.k (.int .u64 8)), none, none, [], none⟩,
  ⟨(some 39), .mv (.t 0), none, none, [], none⟩,
  ⟨(some 40), .mv (.t 1), none, none, [], none⟩,
  ⟨(some 41), .mv (.t 9), none, none, [], none⟩,
  ⟨(some 42), .bin .add (.t 40) (.t 41), none, none, [], none⟩,
  ⟨(some 43), .idxs (.t 39) (.t 42), none, none, [], none⟩,
  ⟨(some 44), .conv .u64 (.t 43), none, none, [], none⟩,
  ⟨(some 45), .bin .or (.t 38) (.t 44), none, none, [], none⟩,
  ⟨(some 8), .mv (.t 45), none, none, [], none⟩]
def ac_field_Get_17 : AC := .reg l_field_Get_17
def ac_field_Get_18 : AC := .block 2 ac_field_Get_17
def l_field_Get_19 : List AOp := [⟨(some 35), .mv (.t 9), none, none, [], none⟩,
  ⟨(some 36), .bin .sub (.t 35) (.k (.int .i64 1)), none, none, [], none⟩,
  ⟨(some 9), .mv (.t 36), none, none, [], none⟩]
def ac_field_Get_19 : AC := .reg l_field_Get_19
def ac_field_Get_20 : AC := .seq ac_field_Get_18 ac_field_Get_19
def ac_field_Get_21 : AC := .seq ac_field_Get_16 ac_field_Get_20
def ac_field_Get_22 : AC := .loop [0, 1, 8, 9] 0 ac_field_Get_21
def ac_field_Get_23 : AC := .block 1 ac_field_Get_22
def ac_field_Get_24 : AC := .seq ac_field_Get_13 ac_field_Get_23
def l_field_Get_25 : List AOp := [⟨(some 46), .mv (.t 8), none, none, [], none⟩,
  ⟨(some 6), .mv (.t 46), none, none, [], none⟩,
  ⟨(some 7), .mv (.k (.int .i64 0)), none, none, [], none⟩]
def ac_field_Get_25 : AC := .reg l_field_Get_25
def ac_field_Get_26 : AC := .seq ac_field_Get_25 .ret
def ac_field_Get_27 : AC := .seq ac_field_Get_24 ac_field_Get_26
def ac_field_Get_28 : AC := .seq ac_field_Get_12 ac_field_Get_27
def ac_field_Get_29 : AC := .seq ac_field_Get_11 ac_field_Get_28
def ac_field_Get_30 : AC := .seq ac_field_Get_0 ac_field_Get_29
def ac_field_Get : AC := ac_field_Get_30
theorem comp_field_Get : compF Try.prog [] (drawR Try.prog [] Try.f50.ntmps) [([0, 1, 8, 9], 0)] 3 Try.f50 = some (ac_field_Get, [.t 6, .t 7]) := by kernel_rfl
def U_field_Get := (And.intro (And.intro (And.intro (And.intro (And.intro (And.intro @ac_field_Get.eq_1 (@mR _ _ ac_field_Get_0.eq_1)) (@mR _ _ ac_field_Get_1.eq_1)) (And.intro (And.intro (@mR _ _ ac_field_Get_2.eq_1) (@mU _ _ ac_field_Get_3.eq_1)) (@mR _ _ ac_field_Get_4.eq_1))) (And.intro (And.intro (And.intro (@mR _ _ ac_field_Get_5.eq_1) (@mU _ _ ac_field_Get_6.eq_1)) (@mU _ _ ac_field_Get_7.eq_1)) (And.intro (@mU _ _ ac_field_Get_8.eq_1) (@mU _ _ ac_field_Get_9.eq_1)))) (And.intro (And.intro (And.intro (And.intro (@mU _ _ ac_field_Get_10.eq_1) (@mU _ _ ac_field_Get_11.eq_1)) (@mR _ _ ac_field_Get_12.eq_1)) (And.intro (And.intro (@mR _ _ ac_field_Get_13.eq_1) (@mR _ _ ac_field_Get_14.eq_1)) (@mU _ _ ac_field_Get_15.eq_1))) (And.intro (And.intro (And.intro (@mU _ _ ac_field_Get_16.eq_1) (@mR _ _ ac_field_Get_17.eq_1)) (@mU _ _ ac_field_Get_18.eq_1)) (And.intro (@mR _ _ ac_field_Get_19.eq_1) (@mU _ _ ac_field_Get_20.eq_1))))) (And.intro (And.intro (And.intro (And.intro (And.intro (@mU _ _ ac_field_Get_21.eq_1) (@mU _ _ ac_field_Get_22.eq_1)) (@mU _ _ ac_field_Get_23.eq_1)) (And.intro (And.intro (@mU _ _ ac_field_Get_24.eq_1) (@mR _ _ ac_field_Get_25.eq_1)) (@mU _ _ ac_field_Get_26.eq_1))) (And.intro (And.intro (And.intro (@mU _ _ ac_field_Get_27.eq_1) (@mU _ _ ac_field_Get_28.eq_1)) (@mU _ _ ac_field_Get_29.eq_1)) (And.intro (@mU _ _ ac_field_Get_30.eq_1) @l_field_Get_0.eq_1))) (And.intro (And.intro (And.intro (And.intro @l_field_Get_1.eq_1 @l_field_Get_2.eq_1) @l_field_Get_4.eq_1) (And.intro @l_field_Get_5.eq_1 @l_field_Get_12.eq_1)) (And.intro (And.intro (And.intro @l_field_Get_13.eq_1 @l_field_Get_14.eq_1) @l_field_Get_17.eq_1) (And.intro @l_field_Get_19.eq_1 @l_field_Get_25.eq_1)))))

/- scoria/scoriaref01.Get -/
def l_ref01_Get_0 : List AOp := [⟨(some 6), .mv (.k (.int .u64 0)), none, none, [], none⟩,
  ⟨(some 7), .mv (.k (.int .i64 0)), none, none, [], none⟩]
def ac_ref01_Get_0 : AC := .reg l_ref01_Get_0
def l_ref01_Get_1 : List AOp := [⟨(some 11), .mv (.t 2), none, none, [], none⟩,
  ⟨(some 12), .bin .lss (.t 11) (.k (.int .i64 1)), none, none, [], none⟩,
  ⟨(some 13), .mv (.t 12), none, none, [], none⟩,
  ⟨(some 14), .mv (.t 2), (some (13, false)), none, [], none⟩,
  ⟨(some 15), .bin .gtr (.t 14) (.k (.int .i64 8)), (some (13, false)), none, [], none⟩,
  ⟨(some 16), .pick (.t 13) (.k (.bool true)) (.t 15), none, none, [], none⟩,
  ⟨(some 17), .mv (.t 16), none, none, [], none⟩,
  ⟨(some 18), .mv (.t 1), (some (17, false)), none, [], none⟩,
  ⟨(some 19), .bin .lss (.t 18) (.k (.int .i64 0)), (some (17, false)), none, [], none⟩,
  ⟨(some 20), .pick (.t 17) (.k (.bool true)) (.t 19), none, none, [], none⟩]
def ac_ref01_Get_1 : AC := .reg l_ref01_Get_1
def l_ref01_Get_2 : List AOp := [⟨(some 6), .mv (.k (.int .u64 0)), none, none, [], none⟩,
  ⟨(some 7), .mv (.k (.int .i64 1)), none, none, [], none⟩]
def ac_ref01_Get_2 : AC := .reg l_ref01_Get_2
def ac_ref01_Get_3 : AC := .seq ac_ref01_Get_2 .ret
def ac_ref01_Get_4 : AC := .cond (.t 20) ac_ref01_Get_3 .skip
def ac_ref01_Get_5 : AC := .seq ac_ref01_Get_1 ac_ref01_Get_4
def l_ref01_Get_6 : List AOp := [⟨(some 21), .mv (.t 1), none, none, [], none⟩,
  ⟨(some 22), .mv (.t 0), none, none, [], none⟩,
  ⟨(some 23), .lens (.t 22), none, none, [], none⟩,
  ⟨(some 24), .bin .gtr (.t 21) (.t 23), none, none, [], none⟩,
  ⟨(some 25), .mv (.t 24), none, none, [], none⟩,
  ⟨(some 26), .mv (.t 2), (some (25, false)), none, [], none⟩,
  ⟨(some 27), .mv (.t 0), (some (25, false)), none, [], none⟩,
  ⟨(some 28), .lens (.t 27), (some (25, false)), none, [], none⟩,
  ⟨(some 29), .mv (.t 1), (some (25, false)), none, [], none⟩,
  ⟨(some 30), .bin .sub (.t 28) (.t 29), (some (25, false)), none, [], none⟩,
  ⟨(some 31), .bin .gtr (.t 26) (.t 30), (some (25, false)), none, [], none⟩,
  ⟨(some 32), .pick (.t 25) (.k (.bool true)) (.t 31), none, none, [], none⟩]
def ac_ref01_Get_6 : AC := .reg l_ref01_Get_6
def l_ref01_Get_7 : List AOp := [⟨(some 6), .mv (.k (.int .u64 0)), none, none, [], none⟩,
  ⟨(some 7), .mv (.k (.int .i64 5)), none, none, [], none⟩]
def ac_ref01_Get_7 : AC := .reg l_ref01_Get_7
def ac_ref01_Get_8 : AC := .seq ac_ref01_Get_7 .ret
def ac_ref01_Get_9 : AC := .cond (.t 32) ac_ref01_Get_8 .skip
def ac_ref01_Get_10 : AC := .seq ac_ref01_Get_6 ac_ref01_Get_9
def l_ref01_Get_11 : List AOp := [⟨(some 8), .mv (.k (.int .u64 0)), none, none, [], none⟩,
  ⟨(some 9), .mv (.k (.int .u64 1)), none, none, [], none⟩]
def ac_ref01_Get_11 : AC := .reg l_ref01_Get_11
def l_ref01_Get_12 : List AOp := [⟨(some 10), .mv (.k (.int .i64 0)), none, none, [], none⟩]
def ac_ref01_Get_12 : AC := .reg l_ref01_Get_12
def l_ref01_Get_13 : List AOp := [⟨(some 33), .mv (.t 10), none, none, [], none⟩,
  ⟨(some 34), .mv (.t 2), none, none, [], none⟩,
  ⟨(some 35), .bin .lss (.t 33) (.t 34), none, none, [], none⟩]
def ac_ref01_Get_13 : AC := .reg l_ref01_Get_13
def ac_ref01_Get_14 : AC := .cond (.t 35) .skip (.exit 0)
def ac_ref01_Get_15 : AC := .seq ac_ref01_Get_13 ac_ref01_Get_14
def l_ref01_Get_16 : List AOp := [⟨(some 38), .mv (.t 8), none, none, [], none⟩,
  ⟨(some 39), .mv (.t 9), none, none, [], none⟩,
  ⟨(some 40), .mv (.t 0), none, none, [], none⟩,
  ⟨(some 41), .mv (.t 1), none, none, [], none⟩,
  ⟨(some 42), .mv (.t 10), none, none, [], none⟩,
  ⟨(some 43), .bin .add (.t 41) (.t 42), none, none, [], none⟩,
  ⟨(some 44), .idxs (.t 40) (.t 43), none, none, [], none⟩,
  ⟨(some 45), .conv .u64 (.t 44), none, none, [], none⟩,
  ⟨(some 46), .bin .mul (.t 39) (.t 45), none, none, [], none⟩,
  ⟨(some 47), .bin .add (.t 38) (.t 46), none, none, [], none⟩,
  ⟨(some 8), .mv (.t 47), none, none, [], none⟩]
def ac_ref01_Get_16 : AC := .reg l_ref01_Get_16
def l_ref01_Get_17 : List AOp := [⟨(some 48), .mv (.t 9), none, none, [], none⟩,
  ⟨(some 49), .bin .mul (.t 48) (.k (.int .u64 256)), none, none, [], none⟩,
  ⟨(some 9), .mv (.t 49), none, none, [], none⟩]
def ac_ref01_Get_17 : AC := .reg l_ref01_Get_17
def ac_ref01_Get_18 : AC := .seq ac_ref01_Get_16 ac_ref01_Get_17
def ac_ref01_Get_19 : AC := .block 1 ac_ref01_Get_18
def l_ref01_Get_20 : List AOp := [⟨(some 36), .mv (.t 10), none, none, [], none⟩,
  ⟨(some 37), .bin .add (.t 36) (.k (.int .i64 1)), none, none, [], none⟩,
  ⟨(some 10), .mv (.t 37), none, none, [], none⟩]
def ac_ref01_Get_20 : AC := .reg l_ref01_Get_20
def ac_ref01_Get_21 : AC := .seq ac_ref01_Get_19 ac_ref01_Get_20
def ac_ref01_Get_22 : AC := .seq ac_ref01_Get_15 ac_ref01_Get_21
def ac_ref01_Get_23 : AC := .loop [0, 1, 2, 8, 9, 10] 0 ac_ref01_Get_22
def ac_ref01_Get_24 : AC := .block 0 ac_ref01_Get_23
def ac_ref01_Get_25 : AC := .seq ac_ref01_Get_12 ac_ref01_Get_24
def l_ref01_Get_26 : List AOp := [⟨(some 50), .mv (.t 8), none, none, [], none⟩,
  ⟨(some 6), .mv (.t 50), none, none, [], none⟩,
  ⟨(some 7), .mv (.k (.int .i64 0)), none, none, [], none⟩]
def ac_ref01_Get_26 : AC := .reg l_ref01_Get_26
def ac_ref01_Get_27 : AC := .seq ac_ref01_Get_26 .ret
def ac_ref01_Get_28 : AC := .seq ac_ref01_Get_25 ac_ref01_Get_27
def ac_ref01_Get_29 : AC := .seq ac_ref01_Get_11 ac_ref01_Get_28
def ac_ref01_Get_30 : AC := .seq ac_ref01_Get_10 ac_ref01_Get_29
def ac_ref01_Get_31 : AC := .seq ac_ref01_Get_5 ac_ref01_Get_30
def ac_ref01_Get_32 : AC := .seq ac_ref01_Get_0 ac_ref01_Get_31
def ac_ref01_Get : AC := ac_ref01_Get_32
theorem comp_ref01_Get : compF Try.prog [] (drawR Try.prog [] Try.f51.ntmps) [([0, 1, 2, 8, 9, 10], 0)] 3 Try.f51 = some (ac_ref01_Get, [.t 6, .t 7]) := by kernel_rfl
def U_ref01_Get := (And.intro (And.intro (And.intro (And.intro (And.intro (And.intro @ac_ref01_Get.eq_1 (@mR _ _ ac_ref01_Get_0.eq_1)) (@mR _ _ ac_ref01_Get_1.eq_1)) (And.intro (And.intro (@mR _ _ ac_ref01_Get_2.eq_1) (@mU _ _ ac_ref01_Get_3.eq_1)) (@mU _ _ ac_ref01_Get_4.eq_1))) (And.intro (And.intro (And.intro (@mU _ _ ac_ref01_Get_5.eq_1) (@mR _ _ ac_ref01_Get_6.eq_1)) (@mR _ _ ac_ref01_Get_7.eq_1)) (And.intro (And.intro (@mU _ _ ac_ref01_Get_8.eq_1) (@mU _ _ ac_ref01_Get_9.eq_1)) (@mU _ _ ac_ref01_Get_10.eq_1)))) (And.intro (And.intro (And.intro (And.intro (@mR _ _ ac_ref01_Get_11.eq_1) (@mR _ _ ac_ref01_Get_12.eq_1)) (@mR _ _ ac_ref01_Get_13.eq_1)) (And.intro (And.intro (@mU _ _ ac_ref01_Get_14.eq_1) (@mU _ _ ac_ref01_Get_15.eq_1)) (@mR _ _ ac_ref01_Get_16.eq_1))) (And.intro (And.intro (And.intro (@mR _ _ ac_ref01_Get_17.eq_1) (@mU _ _ ac_ref01_Get_18.eq_1)) (@mU _ _ ac_ref01_Get_19.eq_1)) (And.intro (@mR _ _ ac_ref01_Get_20.eq_1) (@mU _ _ ac_ref01_Get_21.eq_1))))) (And.intro (And.intro (And.intro (And.intro (And.intro (@mU _ _ ac_ref01_Get_22.eq_1) (@mU _ _ ac_ref01_Get_23.eq_1)) (@mU _ _ ac_ref01_Get_24.eq_1)) (And.intro (And.intro (@mU _ _ ac_ref01_Get_25.eq_1) (@mR _ _ ac_ref01_Get_26.eq_1)) (@mU _ _ ac_ref01_Get_27.eq_1))) (And.intro (And.intro (And.intro (@mU _ _ ac_ref01_Get_28.eq_1) (@mU _ _ ac_ref01_Get_29.eq_1)) (@mU _ _ ac_ref01_Get_30.eq_1)) (And.intro (And.intro (@mU _ _ ac_ref01_Get_31.eq_1) (@mU _ _ ac_ref01_Get_32.eq_1)) @l_ref01_Get_0.eq_1))) (And.intro (And.intro (And.intro (And.intro @l_ref01_Get_1.eq_1 @l_ref01_Get_2.eq_1) @l_ref01_Get_6.eq_1) (And.intro (And.intro @l_ref01_Get_7.eq_1 @l_ref01_Get_11.eq_1) @l_ref01_Get_12.eq_1)) (And.intro (And.intro (And.intro @l_ref01_Get_13.eq_1 @l_ref01_Get_16.eq_1) @l_ref01_Get_17.eq_1) (And.intro @l_ref01_Get_20.eq_1 @l_ref01_Get_26.eq_1)))))

/- slices.IndexFunc[[]int,int] -/
def l_slices_IndexFunc_int_0 : List AOp := [⟨(some 4), .mv (.k (.int .i64 0)), none, none, [], none⟩]
def ac_slices_IndexFunc_int_0 : AC := .reg l_slices_IndexFunc_int_0
def l_slices_IndexFunc_int_1 : List AOp := [⟨(some 6), .mv (.t 0), none, none, [], none⟩,
  ⟨(some 7), .len (.t 6), none, none, [], none⟩,
  ⟨(some 8), .mv (.k (.int .i64 0)), none, none, [], none⟩]
def ac_slices_IndexFunc_int_1 : AC := .reg l_slices_IndexFunc_int_1
def l_slices_IndexFunc_int_2 : List AOp := [⟨(some 9), .bin .lss (.t 8) (.t 7), none, none, [], none⟩]
def ac_slices_IndexFunc_int_2 : AC := .reg l_slices_IndexFunc_int_2
def ac_slices_IndexFunc_int_3 : AC := .cond (.t 9) .skip (.exit 0)
def l_slices_IndexFunc_int_4 : List AOp := [⟨(some 10), .mv (.t 8), none, none, [], none⟩,
  ⟨(some 5), .mv (.t 10), none, none, [], none⟩]
def ac_slices_IndexFunc_int_4 : AC := .reg l_slices_IndexFunc_int_4
def l_slices_IndexFunc_int_5 : List AOp := [⟨(some 11), .mv (.t 1), none, none, [], none⟩,
  ⟨(some 12), .mv (.t 0), none, none, [], none⟩,
  ⟨(some 13), .mv (.t 5), none, none, [], none⟩,
  ⟨(some 14), .isl 1 (.t 12) (.t 13), none, none, [], none⟩,
  ⟨(some 15), .load none (.t 14), none, none, [], none⟩,
  ⟨(some 16), .callv (.t 11) [(.t 15)], none, none, [], none⟩]
def ac_slices_IndexFunc_int_5 : AC := .reg l_slices_IndexFunc_int_5
def l_slices_IndexFunc_int_6 : List AOp := [⟨(some 17), .mv (.t 5), none, none, [], none⟩,
  ⟨(some 4), .mv (.t 17), none, none, [], none⟩]
def ac_slices_IndexFunc_int_6 : AC := .reg l_slices_IndexFunc_int_6
def ac_slices_IndexFunc_int_7 : AC := .seq ac_slices_IndexFunc_int_6 .ret
def ac_slices_IndexFunc_int_8 : AC := .cond (.t 16) ac_slices_IndexFunc_int_7 .skip
def ac_slices_IndexFunc_int_9 : AC := .seq ac_slices_IndexFunc_int_5 ac_slices_IndexFunc_int_8
def ac_slices_IndexFunc_int_10 : AC := .seq ac_slices_IndexFunc_int_4 ac_slices_IndexFunc_int_9
def ac_slices_IndexFunc_int_11 : AC := .block 1 ac_slices_IndexFunc_int_10
def l_slices_IndexFunc_int_12 : List AOp := [⟨(some 18), .bin .add (.t 8) (.k (.int .i64 1)), none, none, [], none⟩,
  ⟨(some 8), .mv (.t 18), none, none, [], none⟩]
def ac_slices_IndexFunc_int_12 : AC := .reg l_slices_IndexFunc_int_12
def ac_slices_IndexFunc_int_13 : AC := .seq ac_slices_IndexFunc_int_11 ac_slices_IndexFunc_int_12
def ac_slices_IndexFunc_int_14 : AC := .seq ac_slices_IndexFunc_int_3 ac_slices_IndexFunc_int_13
def ac_slices_IndexFunc_int_15 : AC := .seq ac_slices_IndexFunc_int_2 ac_slices_IndexFunc_int_14
def ac_slices_IndexFunc_int_16 : AC := .loop [0, 1, 7, 8] 0 ac_slices_IndexFunc_int_15
def ac_slices_IndexFunc_int_17 : AC := .block 0 ac_slices_IndexFunc_int_16
def ac_slices_IndexFunc_int_18 : AC := .seq ac_slices_IndexFunc_int_1 ac_slices_IndexFunc_int_17
def l_slices_IndexFunc_int_19 : List AOp := [⟨(some 4), .mv (.k (.int .i64 (-1))), none, none, [], none⟩]
def ac_slices_IndexFunc_int_19 : AC := .reg l_slices_IndexFunc_int_19
def ac_slices_IndexFunc_int_20 : AC := .seq ac_slices_IndexFunc_int_19 .ret
def ac_slices_IndexFunc_int_21 : AC := .seq ac_slices_IndexFunc_int_18 ac_slices_IndexFunc_int_20
def ac_slices_IndexFunc_int_22 : AC := .seq ac_slices_IndexFunc_int_0 ac_slices_IndexFunc_int_21
def ac_slices_IndexFunc_int : AC := ac_slices_IndexFunc_int_22
theorem comp_slices_IndexFunc_int : compF Try.prog [] (drawR Try.prog [] Try.f52.ntmps) [([0, 1, 7, 8], 0)] 2 Try.f52 = some (ac_slices_IndexFunc_int, [.t 4]) := by kernel_rfl
def U_slices_IndexFunc_int := (And.intro (And.intro (And.intro (And.intro (And.intro @ac_slices_IndexFunc_int.eq_1 (@mR _ _ ac_slices_IndexFunc_int_0.eq_1)) (And.intro (@mR _ _ ac_slices_IndexFunc_int_1.eq_1) (@mR _ _ ac_slices_IndexFunc_int_2.eq_1))) (And.intro (And.intro (@mU _ _ ac_slices_IndexFunc_int_3.eq_1) (@mR _ _ ac_slices_IndexFunc_int_4.eq_1)) (And.intro (@mR _ _ ac_slices_IndexFunc_int_5.eq_1) (@mR _ _ ac_slices_IndexFunc_int_6.eq_1)))) (And.intro (And.intro (And.intro (@mU _ _ ac_slices_IndexFunc_int_7.eq_1) (@mU _ _ ac_slices_IndexFunc_int_8.eq_1)) (And.intro (@mU _ _ ac_slices_IndexFunc_int_9.eq_1) (@mU _ _ ac_slices_IndexFunc_int_10.eq_1))) (And.intro (And.intro (@mU _ _ ac_slices_IndexFunc_int_11.eq_1) (@mR _ _ ac_slices_IndexFunc_int_12.eq_1)) (And.intro (@mU _ _ ac_slices_IndexFunc_int_13.eq_1) (@mU _ _ ac_slices_IndexFunc_int_14.eq_1))))) (And.intro (And.intro (And.intro (And.intro (@mU _ _ ac_slices_IndexFunc_int_15.eq_1) (@mU _ _ ac_slices_IndexFunc_int_16.eq_1)) (And.intro (@mU _ _ ac_slices_IndexFunc_int_17.eq_1) (@mU _ _ ac_slices_IndexFunc_int_18.eq_1))) (And.intro (And.intro (@mR _ _ ac_slices_IndexFunc_int_19.eq_1) (@mU _ _ ac_slices_IndexFunc_int_20.eq_1)) (And.intro (@mU _ _ ac_slices_IndexFunc_int_21.eq_1) (@mU _ _ ac_slices_IndexFunc_int_22.eq_1)))) (And.intro (And.intro (And.intro @l_slices_IndexFunc_int_0.eq_1 @l_slices_IndexFunc_int_1.eq_1) (And.intro @l_slices_IndexFunc_int_2.eq_1 @l_slices_IndexFunc_int_4.eq_1)) (And.intro (And.intro @l_slices_IndexFunc_int_5.eq_1 @l_slices_IndexFunc_int_6.eq_1) (And.intro @l_slices_IndexFunc_int_12.eq_1 @l_slices_IndexFunc_int_19.eq_1)))))

/- scoria/check.More -/
def l_check_More_0 : List AOp := [⟨(some 4), .mv (.k (.int .u32 0)), none, none, [], none⟩]
def ac_check_More_0 : AC := .reg l_check_More_0
def l_check_More_1 : List AOp := [⟨(some 7), .mv (.t 0), none, none, [], none⟩,
  ⟨(some 8), .un .xor (.t 7), none, none, [], none⟩,
  ⟨(some 5), .mv (.t 8), none, none, [], none⟩]
def ac_check_More_1 : AC := .reg l_check_More_1
def l_check_More_2 : List AOp := [⟨(some 9), .mv (.t 1), none, none, [], none⟩,
  ⟨(some 10), .lens (.t 9), none, none, [], none⟩,
  ⟨(some 11), .mv (.k (.int .i64 0)), none, none, [], none⟩]
def ac_check_More_2 : AC := .reg l_check_More_2
def l_check_More_3 : List AOp := [⟨(some 12), .bin .lss (.t 11) (.t 10), none, none, [], none⟩]
def ac_check_More_3 : AC := .reg l_check_More_3
def ac_check_More_4 : AC := .cond (.t 12) .skip (.exit 0)
def l_check_More_5 : List AOp := [⟨(some 13), .mv (.t 11), none, none, [], none⟩,
  ⟨(some 6), .mv (.t 13), none, none, [], none⟩]
def ac_check_More_5 : AC := .reg l_check_More_5
def l_check_More_6 : List AOp := [⟨(some 14), .mv (.t 5), none, none, [], none⟩,
  ⟨(some 15), .mv (.t 1), none, none, [], none⟩,
  ⟨(some 16), .mv (.t 6), none, none, [], none⟩,
  ⟨(some 17), .idxs (.t 15) (.t 16), none, none, [], none⟩,
  ⟨(some 18), .call false 58 [(.t 14), (.t 17)], none, none, [], none⟩,
  ⟨(some 5), .mv (.t 18), none, none, [], none⟩]
def ac_check_More_6 : AC := .reg l_check_More_6
def ac_check_More_7 : AC := .seq ac_check_More_5 ac_check_More_6
def ac_check_More_8 : AC := .block 1 ac_check_More_7
def l_check_More_9 : List AOp := [⟨(some 19), .bin .add (.t 11) (.k (.int .i64 1)), none, none, [], none⟩,
  ⟨(some 11), .mv (.t 19), none, none, [], none⟩]
def ac_check_More_9 : AC := .reg l_check_More_9
def ac_check_More_10 : AC := .seq ac_check_More_8 ac_check_More_9
def ac_check_More_11 : AC := .seq ac_check_More_4 ac_check_More_10
def ac_check_More_12 : AC := .seq ac_check_More_3 ac_check_More_11
def ac_check_More_13 : AC := .loop [1, 5, 10, 11] 0 ac_check_More_12
def ac_check_More_14 : AC := .block 0 ac_check_More_13
def ac_check_More_15 : AC := .seq ac_check_More_2 ac_check_More_14
def l_check_More_16 : List AOp := [⟨(some 20), .mv (.t 5), none, none, [], none⟩,
  ⟨(some 21), .un .xor (.t 20), none, none, [], none⟩,
  ⟨(some 4), .mv (.t 21), none, none, [], none⟩]
def ac_check_More_16 : AC := .reg l_check_More_16
def ac_check_More_17 : AC := .seq ac_check_More_16 .ret
def ac_check_More_18 : AC := .seq ac_check_More_15 ac_check_More_17
def ac_check_More_19 : AC := .seq ac_check_More_1 ac_check_More_18
def ac_check_More_20 : AC := .seq ac_check_More_0 ac_check_More_19
def ac_check_More : AC := ac_check_More_20
theorem comp_check_More : compF Try.prog [] (drawR Try.prog [] Try.f54.ntmps) [([1, 5, 10, 11], 0)] 2 Try.f54 = some (ac_check_More, [.t 4]) := by kernel_rfl
def U_check_More := (And.intro (And.intro (And.intro (And.intro (And.intro @ac_check_More.eq_1 (@mR _ _ ac_check_More_0.eq_1)) (And.intro (@mR _ _ ac_check_More_1.eq_1) (@mR _ _ ac_check_More_2.eq_1))) (And.intro (And.intro (@mR _ _ ac_check_More_3.eq_1) (@mU _ _ ac_check_More_4.eq_1)) (And.intro (@mR _ _ ac_check_More_5.eq_1) (@mR _ _ ac_check_More_6.eq_1)))) (And.intro (And.intro (And.intro (@mU _ _ ac_check_More_7.eq_1) (@mU _ _ ac_check_More_8.eq_1)) (And.intro (@mR _ _ ac_check_More_9.eq_1) (@mU _ _ ac_check_More_10.eq_1))) (And.intro (And.intro (@mU _ _ ac_check_More_11.eq_1) (@mU _ _ ac_check_More_12.eq_1)) (@mU _ _ ac_check_More_13.eq_1)))) (And.intro (And.intro (And.intro (And.intro (@mU _ _ ac_check_More_14.eq_1) (@mU _ _ ac_check_More_15.eq_1)) (And.intro (@mR _ _ ac_check_More_16.eq_1) (@mU _ _ ac_check_More_17.eq_1))) (And.intro (And.intro (@mU _ _ ac_check_More_18.eq_1) (@mU _ _ ac_check_More_19.eq_1)) (And.intro (@mU _ _ ac_check_More_20.eq_1) @l_check_More_0.eq_1))) (And.intro (And.intro (And.intro @l_check_More_1.eq_1 @l_check_More_2.eq_1) (And.intro @l_check_More_3.eq_1 @l_check_More_5.eq_1)) (And.intro (And.intro @l_check_More_6.eq_1 @l_check_More_9.eq_1) @l_check_More_16.eq_1))))

/- scoria/scoriaref02.divided -/
def l_ref02_divided_0 : List AOp := [⟨(some 4), .mv (.k (.int .u32 0)), none, none, [], none⟩]
def ac_ref02_divided_0 : AC := .reg l_ref02_divided_0
def l_ref02_divided_1 : List AOp := [⟨(some 5), .mv (.k (.int .i64 0)), none, none, [], none⟩]
def ac_ref02_divided_1 : AC := .reg l_ref02_divided_1
def l_ref02_divided_2 : List AOp := [⟨(some 9), .mv (.t 5), none, none, [], none⟩,
  ⟨(some 10), .mv (.t 1), none, none, [], none⟩,
  ⟨(some 11), .lens (.t 10), none, none, [], none⟩,
  ⟨(some 12), .bin .lss (.t 9) (.t 11), none, none, [], none⟩]
def ac_ref02_divided_2 : AC := .reg l_ref02_divided_2
def ac_ref02_divided_3 : AC := .cond (.t 12) .skip (.exit 0)
def ac_ref02_divided_4 : AC := .seq ac_ref02_divided_2 ac_ref02_divided_3
def l_ref02_divided_5 : List AOp := [⟨(some 6), .mv (.k (.int .i64 7)), none, none, [], none⟩]
def ac_ref02_divided_5 : AC := .reg l_ref02_divided_5
def l_ref02_divided_6 : List AOp := [⟨(some 15), .mv (.t 6), none, none, [], none⟩,
  ⟨(some 16), .bin .geq (.t 15) (.k (.int .i64 0)), none, none, [], none⟩]
def ac_ref02_divided_6 : AC := .reg l_ref02_divided_6
def ac_ref02_divided_7 : AC := .cond (.t 16) .skip (.exit 2)
def ac_ref02_divided_8 : AC := .seq ac_ref02_divided_6 ac_ref02_divided_7
def l_ref02_divided_9 : List AOp := [⟨(some 19), .mv (.t 1), none, none, [], none⟩,
  ⟨(some 20), .mv (.t 5), none, none, [], none⟩,
  ⟨(some 21), .idxs (.t 19) (.t 20), none, none, [], none⟩,
  ⟨(some 22), .mv (.t 6), none, none, [], none⟩,
  ⟨(some 23), .conv .u64 (.t 22), none, none, [], none⟩,
  ⟨(some 24), .bin .shr (.t 21) (.t 23), none, none, [], none⟩,
  ⟨(some 25), .conv .u32 (.t 24), none, none, [], none⟩,
  ⟨(some 26), .bin .and (.t 25) (.k (.int .u32 1)), none, none, [], none⟩,
  ⟨(some 7), .mv (.t 26), none, none, [], none⟩]
def ac_ref02_divided_9 : AC := .reg l_ref02_divided_9
def l_ref02_divided_10 : List AOp := [⟨(some 27), .mv (.t 0), none, none, [], none⟩,
  ⟨(some 28), .bin .shr (.t 27) (.k (.int .u64 31)), none, none, [], none⟩,
  ⟨(some 8), .mv (.t 28), none, none, [], none⟩]
def ac_ref02_divided_10 : AC := .reg l_ref02_divided_10
def l_ref02_divided_11 : List AOp := [⟨(some 29), .mv (.t 0), none, none, [], none⟩,
  ⟨(some 30), .bin .shl (.t 29) (.k (.int .u64 1)), none, none, [], none⟩,
  ⟨(some 0), .mv (.t 30), none, none, [], none⟩]
def ac_ref02_divided_11 : AC := .reg l_ref02_divided_11
def l_ref02_divided_12 : List AOp := [⟨(some 31), .mv (.t 8), none, none, [], none⟩,
  ⟨(some 32), .mv (.t 7), none, none, [], none⟩,
  ⟨(some 33), .bin .neq (.t 31) (.t 32), none, none, [], none⟩]
def ac_ref02_divided_12 : AC := .reg l_ref02_divided_12
def l_ref02_divided_13 : List AOp := [⟨(some 34), .mv (.t 0), none, none, [], none⟩,
  ⟨(some 35), .bin .xor (.t 34) (.k (.int .u32 79764919)), none, none, [], none⟩,
  ⟨(some 0), .mv (.t 35), none, none, [], none⟩]
def ac_ref02_divided_13 : AC := .reg l_ref02_divided_13
def ac_ref02_divided_14 : AC := .cond (.t 33) ac_ref02_divided_13 .skip
def ac_ref02_divided_15 : AC := .seq ac_ref02_divided_12 ac_ref02_divided_14
def ac_ref02_divided_16 : AC := .seq ac_ref02_divided_11 ac_ref02_divided_15
def ac_ref02_divided_17 : AC := .seq ac_ref02_divided_10 ac_ref02_divided_16
def ac_ref02_divided_18 : AC := .seq ac_ref02_divided_9 ac_ref02_divided_17
def ac_ref02_divided_19 : AC := .block 3 ac_ref02_divided_18
def l_ref02_divided_20 : List AOp := [⟨(some 17), .mv (.t 6), none, none, [], none⟩,
  ⟨(some 18), .bin .sub (.t 17) (.k (.int .i64 1)), none, none, [], none⟩,
  ⟨(some 6), .mv (.t 18), none, none, [], none⟩]
def ac_ref02_divided_20 : AC := .reg l_ref02_divided_20
def ac_ref02_divided_21 : AC := .seq ac_ref02_divided_19 ac_ref02_divided_20
def ac_ref02_divided_22 : AC := .seq ac_ref02_divided_8 ac_ref02_divided_21
def ac_ref02_divided_23 : AC := .loop [0, 1, 5, 6] 0 ac_ref02_divided_22
def ac_ref02_divided_24 : AC := .block 2 ac_ref02_divided_23
def ac_ref02_divided_25 : AC := .seq ac_ref02_divided_5 ac_ref02_divided_24
def ac_ref02_divided_26 : AC := .block 1 ac_ref02_divided_25
def l_ref02_divided_27 : List AOp := [⟨(some 13), .mv (.t 5), none, none, [], none⟩,
  ⟨(some 14), .bin .add (.t 13) (.k (.int .i64 1)), none, none, [], none⟩,
  ⟨(some 5), .mv (.t 14), none, none, [], none⟩]
def ac_ref02_divided_27 : AC := .reg l_ref02_divided_27
def ac_ref02_divided_28 : AC := .seq ac_ref02_divided_26 ac_ref02_divided_27
def ac_ref02_divided_29 : AC := .seq ac_ref02_divided_4 ac_ref02_divided_28
def ac_ref02_divided_30 : AC := .loop [0, 1, 5] 0 ac_ref02_divided_29
def ac_ref02_divided_31 : AC := .block 0 ac_ref02_divided_30
def ac_ref02_divided_32 : AC := .seq ac_ref02_divided_1 ac_ref02_divided_31
def l_ref02_divided_33 : List AOp := [⟨(some 36), .mv (.t 0), none, none, [], none⟩,
  ⟨(some 4), .mv (.t 36), none, none, [], none⟩]
def ac_ref02_divided_33 : AC := .reg l_ref02_divided_33
def ac_ref02_divided_34 : AC := .seq ac_ref02_divided_33 .ret
def ac_ref02_divided_35 : AC := .seq ac_ref02_divided_32 ac_ref02_divided_34
def ac_ref02_divided_36 : AC := .seq ac_ref02_divided_0 ac_ref02_divided_35
def ac_ref02_divided : AC := ac_ref02_divided_36
theorem comp_ref02_divided : compF Try.prog [] (drawR Try.prog [] Try.f55.ntmps) [([0, 1, 5], 0), ([0, 1, 5, 6], 0)] 2 Try.f55 = some (ac_ref02_divided, [.t 4]) := by kernel_rfl
def U_ref02_divided := (And.intro (And.intro (And.intro (And.intro (And.intro (And.intro @ac_ref02_divided.eq_1 (@mR _ _ ac_ref02_divided_0.eq_1)) (And.intro (@mR _ _ ac_ref02_divided_1.eq_1) (@mR _ _ ac_ref02_divided_2.eq_1))) (And.intro (And.intro (@mU _ _ ac_ref02_divided_3.eq_1) (@mU _ _ ac_ref02_divided_4.eq_1)) (@mR _ _ ac_ref02_divided_5.eq_1))) (And.intro (And.intro (And.intro (@mR _ _ ac_ref02_divided_6.eq_1) (@mU _ _ ac_ref02_divided_7.eq_1)) (@mU _ _ ac_ref02_divided_8.eq_1)) (And.intro (And.intro (@mR _ _ ac_ref02_divided_9.eq_1) (@mR _ _ ac_ref02_divided_10.eq_1)) (@mR _ _ ac_ref02_divided_11.eq_1)))) (And.intro (And.intro (And.intro (And.intro (@mR _ _ ac_ref02_divided_12.eq_1) (@mR _ _ ac_ref02_divided_13.eq_1)) (And.intro (@mU _ _ ac_ref02_divided_14.eq_1) (@mU _ _ ac_ref02_divided_15.eq_1))) (And.intro (And.intro (@mU _ _ ac_ref02_divided_16.eq_1) (@mU _ _ ac_ref02_divided_17.eq_1)) (@mU _ _ ac_ref02_divided_18.eq_1))) (And.intro (And.intro (And.intro (@mU _ _ ac_ref02_divided_19.eq_1) (@mR _ _ ac_ref02_divided_20.eq_1)) (@mU _ _ ac_ref02_divided_21.eq_1)) (And.intro (And.intro (@mU _ _ ac_ref02_divided_22.eq_1) (@mU _ _ ac_ref02_divided_23.eq_1)) (@mU _ _ ac_ref02_divided_24.eq_1))))) (And.intro (And.intro (And.intro (And.intro (And.intro (@mU _ _ ac_ref02_divided_25.eq_1) (@mU _ _ ac_ref02_divided_26.eq_1)) (And.intro (@mR _ _ ac_ref02_divided_27.eq_1) (@mU _ _ ac_ref02_divided_28.eq_1))) (And.intro (And.intro (@mU _ _ ac_ref02_divided_29.eq_1) (@mU _ _ ac_ref02_divided_30.eq_1)) (@mU _ _ ac_ref02_divided_31.eq_1))) (And.intro (And.intro (And.intro (@mU _ _ ac_ref02_divided_32.eq_1) (@mR _ _ ac_ref02_divided_33.eq_1)) (@mU _ _ ac_ref02_divided_34.eq_1)) (And.intro (And.intro (@mU _ _ ac_ref02_divided_35.eq_1) (@mU _ _ ac_ref02_divided_36.eq_1)) @l_ref02_divided_0.eq_1))) (And.intro (And.intro (And.intro (And.intro @l_ref02_divided_1.eq_1 @l_ref02_divided_2.eq_1) @l_ref02_divided_5.eq_1) (And.intro (And.intro @l_ref02_divided_6.eq_1 @l_ref02_divided_9.eq_1) @l_ref02_divided_10.eq_1)) (And.intro (And.intro (And.intro @l_ref02_divided_11.eq_1 @l_ref02_divided_12.eq_1) @l_ref02_divided_13.eq_1) (And.intro (And.intro @l_ref02_divided_20.eq_1 @l_ref02_divided_27.eq_1) @l_ref02_divided_33.eq_1)))))

/- scoria/scoriaref01.field -/
def l_ref01_field_0 : List AOp := [⟨(some 4), .mv (.k (.str [])), none, none, [], none⟩,
  ⟨(some 5), .mv (.k (.bool false)), none, none, [], none⟩]
def ac_ref01_field_0 : AC := .reg l_ref01_field_0
def l_ref01_field_1 : List AOp := [⟨(some 6), .nilown 1, none, none, [], none⟩]
def ac_ref01_field_1 : AC := .reg l_ref01_field_1
def l_ref01_field_2 : List AOp := [⟨(some 7), .mv (.k (.int .i64 0)), none, none, [], none⟩]
def ac_ref01_field_2 : AC := .reg l_ref01_field_2
def l_ref01_field_3 : List AOp := [⟨(some 8), .mv (.t 7), none, none, [], none⟩,
  ⟨(some 9), .mv (.t 1), none, none, [], none⟩,
  ⟨(some 10), .bin .lss (.t 8) (.t 9), none, none, [], none⟩]
def ac_ref01_field_3 : AC := .reg l_ref01_field_3
def ac_ref01_field_4 : AC := .cond (.t 10) .skip (.exit 0)
def ac_ref01_field_5 : AC := .seq ac_ref01_field_3 ac_ref01_field_4
def l_ref01_field_6 : List AOp := [⟨(some 13), .mv (.t 6), none, none, [], none⟩,
  ⟨(some 14), .mv (.t 0), none, none, [], none⟩,
  ⟨(some 15), .bin .rem (.t 14) (.k (.int .u64 256)), none, none, [], none⟩,
  ⟨(some 16), .conv .u8 (.t 15), none, none, [], none⟩,
  ⟨(some 17), .blds false [(.int .u8 0)] 1 [(0, (.t 16))], none, none, [], none⟩,
  ⟨(some 18), .app 1 1 [(.int .u8 0)] (.t 13) (.t 17), none, none, [], none⟩,
  ⟨(some 6), .mv (.t 18), none, none, [], none⟩]
def ac_ref01_field_6 : AC := .reg l_ref01_field_6
def l_ref01_field_7 : List AOp := [⟨(some 19), .mv (.t 0), none, none, [], none⟩,
  ⟨(some 20), .bin .quo (.t 19) (.k (.int .u64 256)), none, none, [], none⟩,
  ⟨(some 0), .mv (.t 20), none, none, [], none⟩]
def ac_ref01_field_7 : AC := .reg l_ref01_field_7
def ac_ref01_field_8 : AC := .seq ac_ref01_field_6 ac_ref01_field_7
def ac_ref01_field_9 : AC := .block 1 ac_ref01_field_8
def l_ref01_field_10 : List AOp := [⟨(some 11), .mv (.t 7), none, none, [], none⟩,
  ⟨(some 12), .bin .add (.t 11) (.k (.int .i64 1)), none, none, [], none⟩,
  ⟨(some 7), .mv (.t 12), none, none, [], none⟩]
def ac_ref01_field_10 : AC := .reg l_ref01_field_10
def ac_ref01_field_11 : AC := .seq ac_ref01_field_9 ac_ref01_field_10
def ac_ref01_field_12 : AC := .seq ac_ref01_field_5 ac_ref01_field_11
def ac_ref01_field_13 : AC := .loop [0, 1, 6, 7] 1 ac_ref01_field_12
def ac_ref01_field_14 : AC := .block 0 ac_ref01_field_13
def ac_ref01_field_15 : AC := .seq ac_ref01_field_2 ac_ref01_field_14
def l_ref01_field_16 : List AOp := [⟨(some 21), .mv (.t 6), none, none, [], none⟩,
  ⟨(some 22), .b2s (.t 21), none, none, [], none⟩,
  ⟨(some 23), .mv (.t 0), none, none, [], none⟩,
  ⟨(some 24), .bin .eql (.t 23) (.k (.int .u64 0)), none, none, [], none⟩,
  ⟨(some 4), .mv (.t 22), none, none, [], none⟩,
  ⟨(some 5), .mv (.t 24), none, none, [], none⟩]
def ac_ref01_field_16 : AC := .reg l_ref01_field_16
def ac_ref01_field_17 : AC := .seq ac_ref01_field_16 .ret
def ac_ref01_field_18 : AC := .seq ac_ref01_field_15 ac_ref01_field_17
def ac_ref01_field_19 : AC := .seq ac_ref01_field_1 ac_ref01_field_18
def ac_ref01_field_20 : AC := .seq ac_ref01_field_0 ac_ref01_field_19
def ac_ref01_field : AC := ac_ref01_field_20
theorem comp_ref01_field : compF Try.prog [6] (drawR Try.prog [6] Try.f56.ntmps) [([0, 1, 6, 7], 1)] 2 Try.f56 = some (ac_ref01_field, [.t 4, .t 5]) := by kernel_rfl
def U_ref01_field := (And.intro (And.intro (And.intro (And.intro (And.intro @ac_ref01_field.eq_1 (@mR _ _ ac_ref01_field_0.eq_1)) (And.intro (@mR _ _ ac_ref01_field_1.eq_1) (@mR _ _ ac_ref01_field_2.eq_1))) (And.intro (And.intro (@mR _ _ ac_ref01_field_3.eq_1) (@mU _ _ ac_ref01_field_4.eq_1)) (And.intro (@mU _ _ ac_ref01_field_5.eq_1) (@mR _ _ ac_ref01_field_6.eq_1)))) (And.intro (And.intro (And.intro (@mR _ _ ac_ref01_field_7.eq_1) (@mU _ _ ac_ref01_field_8.eq_1)) (And.intro (@mU _ _ ac_ref01_field_9.eq_1) (@mR _ _ ac_ref01_field_10.eq_1))) (And.intro (And.intro (@mU _ _ ac_ref01_field_11.eq_1) (@mU _ _ ac_ref01_field_12.eq_1)) (@mU _ _ ac_ref01_field_13.eq_1)))) (And.intro (And.intro (And.intro (And.intro (@mU _ _ ac_ref01_field_14.eq_1) (@mU _ _ ac_ref01_field_15.eq_1)) (And.intro (@mR _ _ ac_ref01_field_16.eq_1) (@mU _ _ ac_ref01_field_17.eq_1))) (And.intro (And.intro (@mU _ _ ac_ref01_field_18.eq_1) (@mU _ _ ac_ref01_field_19.eq_1)) (And.intro (@mU _ _ ac_ref01_field_20.eq_1) @l_ref01_field_0.eq_1))) (And.intro (And.intro (And.intro @l_ref01_field_1.eq_1 @l_ref01_field_2.eq_1) (And.intro @l_ref01_field_3.eq_1 @l_ref01_field_6.eq_1)) (And.intro (And.intro @l_ref01_field_7.eq_1 @l_ref01_field_10.eq_1) @l_ref01_field_16.eq_1))))

/- scoria/check.next -/
def l_check_next_0 : List AOp := [⟨(some 4), .mv (.k (.int .u32 0)), none, none, [], none⟩]
def ac_check_next_0 : AC := .reg l_check_next_0
def l_check_next_1 : List AOp := [⟨(some 5), .mv (.t 0), none, none, [], none⟩,
  ⟨(some 6), .mv (.t 1), none, none, [], none⟩,
  ⟨(some 7), .conv .u32 (.t 6), none, none, [], none⟩,
  ⟨(some 8), .bin .shl (.t 7) (.k (.int .u64 24)), none, none, [], none⟩,
  ⟨(some 9), .bin .xor (.t 5) (.t 8), none, none, [], none⟩,
  ⟨(some 0), .mv (.t 9), none, none, [], none⟩]
def ac_check_next_1 : AC := .reg l_check_next_1
def l_check_next_2 : List AOp := [⟨(some 10), .mv (.k (.int .i64 0)), none, none, [], none⟩]
def ac_check_next_2 : AC := .reg l_check_next_2
def l_check_next_3 : List AOp := [⟨(some 11), .bin .lss (.t 10) (.k (.int .i64 8)), none, none, [], none⟩]
def ac_check_next_3 : AC := .reg l_check_next_3
def ac_check_next_4 : AC := .cond (.t 11) .skip (.exit 0)
def l_check_next_5 : List AOp := [⟨(some 12), .mv (.t 0), none, none, [], none⟩,
  ⟨(some 13), .bin .shr (.t 12) (.k (.int .u64 31)), none, none, [], none⟩,
  ⟨(some 14), .bin .eql (.t 13) (.k (.int .u32 1)), none, none, [], none⟩]
def ac_check_next_5 : AC := .reg l_check_next_5
def l_check_next_6 : List AOp := [⟨(some 15), .mv (.t 0), none, none, [], none⟩,
  ⟨(some 16), .bin .shl (.t 15) (.k (.int .u64 1)), none, none, [], none⟩,
  ⟨(some 17), .bin .xor (.t 16) (.k (.int .u32 79764919)), none, none, [], none⟩,
  ⟨(some 0), .mv (.t 17), none, none, [], none⟩]
def ac_check_next_6 : AC := .reg l_check_next_6
def l_check_next_7 : List AOp := [⟨(some 18), .mv (.t 0), none, none, [], none⟩,
  ⟨(some 19), .bin .shl (.t 18) (.k (.int .u64 1)), none, none, [], none⟩,
  ⟨(some 0), .mv (.t 19), none, none, [], none⟩]
def ac_check_next_7 : AC := .reg l_check_next_7
def ac_check_next_8 : AC := .cond (.t 14) ac_check_next_6 ac_check_next_7
def ac_check_next_9 : AC := .seq ac_check_next_5 ac_check_next_8
def ac_check_next_10 : AC := .block 1 ac_check_next_9
def l_check_next_11 : List AOp := [⟨(some 20), .bin .add (.t 10) (.k (.int .i64 1)), none, none, [], none⟩,
  ⟨(some 10), .mv (.t 20), none, none, [], none⟩]
def ac_check_next_11 : AC := .reg l_check_next_11
def ac_check_next_12 : AC := .seq ac_check_next_10 ac_check_next_11
def ac_check_next_13 : AC := .seq ac_check_next_4 ac_check_next_12
def ac_check_next_14 : AC := .seq ac_check_next_3 ac_check_next_13
def ac_check_next_15 : AC := .loop [0, 10] 0 ac_check_next_14
def ac_check_next_16 : AC := .block 0 ac_check_next_15
def ac_check_next_17 : AC := .seq ac_check_next_2 ac_check_next_16
def l_check_next_18 : List AOp := [⟨(some 21), .mv (.t 0), none, none, [], none⟩,
  ⟨(some 4), .mv (.t 21), none, none, [], none⟩]
def ac_check_next_18 : AC := .reg l_check_next_18
def ac_check_next_19 : AC := .seq ac_check_next_18 .ret
def ac_check_next_20 : AC := .seq ac_check_next_17 ac_check_next_19
def ac_check_next_21 : AC := .seq ac_check_next_1 ac_check_next_20
def ac_check_next_22 : AC := .seq ac_check_next_0 ac_check_next_21
def ac_check_next : AC := ac_check_next_22
theorem comp_check_next : compF Try.prog [] (drawR Try.prog [] Try.f58.ntmps) [([0, 10], 0)] 2 Try.f58 = some (ac_check_next, [.t 4]) := by kernel_rfl
def U_check_next := (And.intro (And.intro (And.intro (And.intro (And.intro (And.intro @ac_check_next.eq_1 (@mR _ _ ac_check_next_0.eq_1)) (@mR _ _ ac_check_next_1.eq_1)) (And.intro (@mR _ _ ac_check_next_2.eq_1) (@mR _ _ ac_check_next_3.eq_1))) (And.intro (And.intro (@mU _ _ ac_check_next_4.eq_1) (@mR _ _ ac_check_next_5.eq_1)) (And.intro (@mR _ _ ac_check_next_6.eq_1) (@mR _ _ ac_check_next_7.eq_1)))) (And.intro (And.intro (And.intro (@mU _ _ ac_check_next_8.eq_1) (@mU _ _ ac_check_next_9.eq_1)) (And.intro (@mU _ _ ac_check_next_10.eq_1) (@mR _ _ ac_check_next_11.eq_1))) (And.intro (And.intro (@mU _ _ ac_check_next_12.eq_1) (@mU _ _ ac_check_next_13.eq_1)) (And.intro (@mU _ _ ac_check_next_14.eq_1) (@mU _ _ ac_check_next_15.eq_1))))) (And.intro (And.intro (And.intro (And.intro (@mU _ _ ac_check_next_16.eq_1) (@mU _ _ ac_check_next_17.eq_1)) (And.intro (@mR _ _ ac_check_next_18.eq_1) (@mU _ _ ac_check_next_19.eq_1))) (And.intro (And.intro (@mU _ _ ac_check_next_20.eq_1) (@mU _ _ ac_check_next_21.eq_1)) (And.intro (@mU _ _ ac_check_next_22.eq_1) @l_check_next_0.eq_1))) (And.intro (And.intro (And.intro @l_check_next_1.eq_1 @l_check_next_2.eq_1) (And.intro @l_check_next_3.eq_1 @l_check_next_5.eq_1)) (And.intro (And.intro @l_check_next_6.eq_1 @l_check_next_7.eq_1) (And.intro @l_check_next_11.eq_1 @l_check_next_18.eq_1)))))

end Go.Proofs.Ytoofeppepahpfaa.Aw
