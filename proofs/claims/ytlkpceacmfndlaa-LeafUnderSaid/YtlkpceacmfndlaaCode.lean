/-
  The functions of the seat, translated to abstract code. Written by a program (wip/Gen2.lean).
-/
import Derived.Test.YtlkpceacmfndlaaAwBun
import Derived.Test.YtlkpceacmfndlaaProg
set_option maxRecDepth 100000
set_option linter.all false
namespace Go.Proofs.Ytlkpceacmfndlaa.Aw
open Go.RowKit
/- scoria/leaf.Leaf -/
def l_leaf_Leaf_0 : List AOp := [⟨(some 2), .mv (.k (.str [])), none, none, [], none⟩,
  ⟨(some 3), .mv (.k (.int .i64 0)), none, none, [], none⟩]
def ac_leaf_Leaf_0 : AC := .reg l_leaf_Leaf_0
def l_leaf_Leaf_1 : List AOp := [⟨(some 4), .mv (.t 0), none, none, [], none⟩,
  ⟨(some 5), .call false 24 [(.t 4)], none, none, [], none⟩,
  ⟨(some 6), .un .not (.t 5), none, none, [], none⟩]
def ac_leaf_Leaf_1 : AC := .reg l_leaf_Leaf_1
def l_leaf_Leaf_2 : List AOp := [⟨(some 2), .mv (.k (.str [])), none, none, [], none⟩,
  ⟨(some 3), .mv (.k (.int .i64 1)), none, none, [], none⟩]
def ac_leaf_Leaf_2 : AC := .reg l_leaf_Leaf_2
def ac_leaf_Leaf_3 : AC := .seq ac_leaf_Leaf_2 .ret
def ac_leaf_Leaf_4 : AC := .cond (.t 6) ac_leaf_Leaf_3 .skip
def ac_leaf_Leaf_5 : AC := .seq ac_leaf_Leaf_1 ac_leaf_Leaf_4
def l_leaf_Leaf_6 : List AOp := [⟨(some 7), .mv (.t 0), none, none, [], none⟩,
  ⟨(some 8), .call false 26 [], none, none, [], none⟩,
  ⟨(some 9), .call false 25 [(.t 7), (.t 8), (.k (.fn (.func 27) [] []))], none, none, [], none⟩,
  ⟨(some 10), .ext 0 (.t 9), none, none, [], none⟩,
  ⟨(some 11), .ext 1 (.t 9), none, none, [], none⟩,
  ⟨(some 2), .mv (.t 10), none, none, [], none⟩,
  ⟨(some 3), .mv (.t 11), none, none, [], none⟩]
def ac_leaf_Leaf_6 : AC := .reg l_leaf_Leaf_6
def ac_leaf_Leaf_7 : AC := .seq ac_leaf_Leaf_6 .ret
def ac_leaf_Leaf_8 : AC := .seq ac_leaf_Leaf_5 ac_leaf_Leaf_7
def ac_leaf_Leaf_9 : AC := .seq ac_leaf_Leaf_0 ac_leaf_Leaf_8
def ac_leaf_Leaf : AC := ac_leaf_Leaf_9
theorem comp_leaf_Leaf : compF Try.prog [] (drawR Try.prog [] Try.f10.ntmps) [] 1 Try.f10 = some (ac_leaf_Leaf, [.t 2, .t 3]) := by kernel_rfl
def U_leaf_Leaf := (And.intro (And.intro (And.intro (And.intro @ac_leaf_Leaf.eq_1 (@mR _ _ ac_leaf_Leaf_0.eq_1)) (And.intro (@mR _ _ ac_leaf_Leaf_1.eq_1) (@mR _ _ ac_leaf_Leaf_2.eq_1))) (And.intro (And.intro (@mU _ _ ac_leaf_Leaf_3.eq_1) (@mU _ _ ac_leaf_Leaf_4.eq_1)) (And.intro (@mU _ _ ac_leaf_Leaf_5.eq_1) (@mR _ _ ac_leaf_Leaf_6.eq_1)))) (And.intro (And.intro (And.intro (@mU _ _ ac_leaf_Leaf_7.eq_1) (@mU _ _ ac_leaf_Leaf_8.eq_1)) (And.intro (@mU _ _ ac_leaf_Leaf_9.eq_1) @l_leaf_Leaf_0.eq_1)) (And.intro (And.intro @l_leaf_Leaf_1.eq_1 @l_leaf_Leaf_2.eq_1) @l_leaf_Leaf_6.eq_1)))

/- scoria/scoriaref09.Leaf -/
def l_ref09_Leaf_0 : List AOp := [⟨(some 2), .mv (.k (.str [])), none, none, [], none⟩,
  ⟨(some 3), .mv (.k (.int .i64 0)), none, none, [], none⟩]
def ac_ref09_Leaf_0 : AC := .reg l_ref09_Leaf_0
def l_ref09_Leaf_1 : List AOp := [⟨(some 6), .mv (.t 0), none, none, [], none⟩,
  ⟨(some 7), .call false 28 [(.t 6)], none, none, [], none⟩,
  ⟨(some 8), .un .not (.t 7), none, none, [], none⟩]
def ac_ref09_Leaf_1 : AC := .reg l_ref09_Leaf_1
def l_ref09_Leaf_2 : List AOp := [⟨(some 2), .mv (.k (.str [])), none, none, [], none⟩,
  ⟨(some 3), .mv (.k (.int .i64 1)), none, none, [], none⟩]
def ac_ref09_Leaf_2 : AC := .reg l_ref09_Leaf_2
def ac_ref09_Leaf_3 : AC := .seq ac_ref09_Leaf_2 .ret
def ac_ref09_Leaf_4 : AC := .cond (.t 8) ac_ref09_Leaf_3 .skip
def ac_ref09_Leaf_5 : AC := .seq ac_ref09_Leaf_1 ac_ref09_Leaf_4
def l_ref09_Leaf_6 : List AOp := [⟨(some 9), .mv (.t 0), none, none, [], none⟩,
  ⟨(some 10), .len (.t 9), none, none, [], none⟩,
  ⟨(some 11), .call false 29 [(.t 10), (.k (.int .i64 1))], none, none, [], none⟩,
  ⟨(some 4), .mv (.t 11), none, none, [], none⟩]
def ac_ref09_Leaf_6 : AC := .reg l_ref09_Leaf_6
def l_ref09_Leaf_7 : List AOp := [⟨(some 5), .mv (.k (.int .i64 0)), none, none, [], none⟩]
def ac_ref09_Leaf_7 : AC := .reg l_ref09_Leaf_7
def l_ref09_Leaf_8 : List AOp := [⟨(some 12), .mv (.t 5), none, none, [], none⟩,
  ⟨(some 13), .mv (.t 0), none, none, [], none⟩,
  ⟨(some 14), .len (.t 13), none, none, [], none⟩,
  ⟨(some 15), .bin .lss (.t 12) (.t 14), none, none, [], none⟩]
def ac_ref09_Leaf_8 : AC := .reg l_ref09_Leaf_8
def ac_ref09_Leaf_9 : AC := .cond (.t 15) .skip (.exit 0)
def ac_ref09_Leaf_10 : AC := .seq ac_ref09_Leaf_8 ac_ref09_Leaf_9
def l_ref09_Leaf_11 : List AOp := [⟨(some 18), .mv (.t 4), none, none, [], none⟩,
  ⟨(some 19), .mv (.t 0), none, none, [], none⟩,
  ⟨(some 20), .mv (.t 5), none, none, [], none⟩,
  ⟨(some 21), .isl 4 (.t 19) (.t 20), none, none, [], none⟩,
  ⟨(some 22), .faddr 0 (.t 21), none, none, [], none⟩,
  ⟨(some 23), .load none (.t 22), none, none, [], none⟩,
  ⟨(some 24), .call false 29 [(.t 23), (.k (.int .i64 3))], none, none, [], none⟩,
  ⟨(some 25), .bin .add (.t 18) (.t 24), none, none, [], none⟩,
  ⟨(some 26), .mv (.t 0), none, none, [], none⟩,
  ⟨(some 27), .mv (.t 5), none, none, [], none⟩,
  ⟨(some 28), .isl 4 (.t 26) (.t 27), none, none, [], none⟩,
  ⟨(some 29), .faddr 1 (.t 28), none, none, [], none⟩,
  ⟨(some 30), .load none (.t 29), none, none, [], none⟩,
  ⟨(some 31), .call false 29 [(.t 30), (.k (.int .i64 4))], none, none, [], none⟩,
  ⟨(some 32), .bin .add (.t 25) (.t 31), none, none, [], none⟩,
  ⟨(some 33), .mv (.t 0), none, none, [], none⟩,
  ⟨(some 34), .mv (.t 5), none, none, [], none⟩,
  ⟨(some 35), .isl 4 (.t 33) (.t 34), none, none, [], none⟩,
  ⟨(some 36), .faddr 2 (.t 35), none, none, [], none⟩,
  ⟨(some 37), .load none (.t 36), none, none, [], none⟩,
  ⟨(some 38), .call false 29 [(.t 37), (.k (.int .i64 1))], none, none, [], none⟩,
  ⟨(some 39), .bin .add (.t 32) (.t 38), none, none, [], none⟩,
  ⟨(some 40), .mv (.t 0), none, none, [], none⟩,
  ⟨(some 41), .mv (.t 5), none, none, [], none⟩,
  ⟨(some 42), .isl 4 (.t 40) (.t 41), none, none, [], none⟩,
  ⟨(some 43), .faddr 3 (.t 42), none, none, [], none⟩,
  ⟨(some 44), .load none (.t 43), none, none, [], none⟩,
  ⟨(some 45), .call false 29 [(.t 44), (.k (.int .i64 2))], none, none, [], none⟩,
  ⟨(some 46), .bin .add (.t 39) (.t 45), none, none, [], none⟩,
  ⟨(some 4), .mv (.t 46), none, none, [], none⟩]
def ac_ref09_Leaf_11 : AC := .dreg 0 l_ref09_Leaf_11
def ac_ref09_Leaf_12 : AC := .block 1 ac_ref09_Leaf_11
def l_ref09_Leaf_13 : List AOp := [⟨(some 16), .mv (.t 5), none, none, [], none⟩,
  ⟨(some 17), .bin .add (.t 16) (.k (.int .i64 1)), none, none, [], none⟩,
  ⟨(some 5), .mv (.t 17), none, none, [], none⟩]
def ac_ref09_Leaf_13 : AC := .reg l_ref09_Leaf_13
def ac_ref09_Leaf_14 : AC := .seq ac_ref09_Leaf_12 ac_ref09_Leaf_13
def ac_ref09_Leaf_15 : AC := .seq ac_ref09_Leaf_10 ac_ref09_Leaf_14
def ac_ref09_Leaf_16 : AC := .loop [0, 4, 5] 0 ac_ref09_Leaf_15
def ac_ref09_Leaf_17 : AC := .block 0 ac_ref09_Leaf_16
def ac_ref09_Leaf_18 : AC := .seq ac_ref09_Leaf_7 ac_ref09_Leaf_17
def l_ref09_Leaf_19 : List AOp := [⟨(some 47), .mv (.t 4), none, none, [], none⟩,
  ⟨(some 2), .mv (.t 47), none, none, [], none⟩,
  ⟨(some 3), .mv (.k (.int .i64 0)), none, none, [], none⟩]
def ac_ref09_Leaf_19 : AC := .reg l_ref09_Leaf_19
def ac_ref09_Leaf_20 : AC := .seq ac_ref09_Leaf_19 .ret
def ac_ref09_Leaf_21 : AC := .seq ac_ref09_Leaf_18 ac_ref09_Leaf_20
def ac_ref09_Leaf_22 : AC := .seq ac_ref09_Leaf_6 ac_ref09_Leaf_21
def ac_ref09_Leaf_23 : AC := .seq ac_ref09_Leaf_5 ac_ref09_Leaf_22
def ac_ref09_Leaf_24 : AC := .seq ac_ref09_Leaf_0 ac_ref09_Leaf_23
def ac_ref09_Leaf : AC := ac_ref09_Leaf_24
theorem comp_ref09_Leaf : compF Try.prog [] (drawR Try.prog [] Try.f11.ntmps) [([0, 4, 5], 0)] 1 Try.f11 = some (ac_ref09_Leaf, [.t 2, .t 3]) := by kernel_rfl
def U_ref09_Leaf := (And.intro (And.intro (And.intro (And.intro (And.intro (And.intro @ac_ref09_Leaf.eq_1 (@mR _ _ ac_ref09_Leaf_0.eq_1)) (@mR _ _ ac_ref09_Leaf_1.eq_1)) (And.intro (@mR _ _ ac_ref09_Leaf_2.eq_1) (@mU _ _ ac_ref09_Leaf_3.eq_1))) (And.intro (And.intro (@mU _ _ ac_ref09_Leaf_4.eq_1) (@mU _ _ ac_ref09_Leaf_5.eq_1)) (And.intro (@mR _ _ ac_ref09_Leaf_6.eq_1) (@mR _ _ ac_ref09_Leaf_7.eq_1)))) (And.intro (And.intro (And.intro (And.intro (@mR _ _ ac_ref09_Leaf_8.eq_1) (@mU _ _ ac_ref09_Leaf_9.eq_1)) (@mU _ _ ac_ref09_Leaf_10.eq_1)) (And.intro (@mD _ _ _ ac_ref09_Leaf_11.eq_1) (@mU _ _ ac_ref09_Leaf_12.eq_1))) (And.intro (And.intro (@mR _ _ ac_ref09_Leaf_13.eq_1) (@mU _ _ ac_ref09_Leaf_14.eq_1)) (And.intro (@mU _ _ ac_ref09_Leaf_15.eq_1) (@mU _ _ ac_ref09_Leaf_16.eq_1))))) (And.intro (And.intro (And.intro (And.intro (And.intro (@mU _ _ ac_ref09_Leaf_17.eq_1) (@mU _ _ ac_ref09_Leaf_18.eq_1)) (@mR _ _ ac_ref09_Leaf_19.eq_1)) (And.intro (@mU _ _ ac_ref09_Leaf_20.eq_1) (@mU _ _ ac_ref09_Leaf_21.eq_1))) (And.intro (And.intro (@mU _ _ ac_ref09_Leaf_22.eq_1) (@mU _ _ ac_ref09_Leaf_23.eq_1)) (And.intro (@mU _ _ ac_ref09_Leaf_24.eq_1) @l_ref09_Leaf_0.eq_1))) (And.intro (And.intro (And.intro @l_ref09_Leaf_1.eq_1 @l_ref09_Leaf_2.eq_1) (And.intro @l_ref09_Leaf_6.eq_1 @l_ref09_Leaf_7.eq_1)) (And.intro (And.intro @l_ref09_Leaf_8.eq_1 @l_ref09_Leaf_11.eq_1) (And.intro @l_ref09_Leaf_13.eq_1 @l_ref09_Leaf_19.eq_1)))))

/- scoria/scorialaw07.Refs -/
def l_law07_Refs_0 : List AOp := [⟨(some 2), .mv (.k (.slc [])), none, none, [], none⟩]
def ac_law07_Refs_0 : AC := .reg l_law07_Refs_0
def l_law07_Refs_1 : List AOp := [⟨(some 3), .nilown 4, none, none, [], none⟩]
def ac_law07_Refs_1 : AC := .reg l_law07_Refs_1
def l_law07_Refs_2 : List AOp := [⟨(some 4), .mv (.k (.int .i64 0)), none, none, [], none⟩]
def ac_law07_Refs_2 : AC := .reg l_law07_Refs_2
def l_law07_Refs_3 : List AOp := [⟨(some 5), .mv (.t 4), none, none, [], none⟩,
  ⟨(some 6), .mv (.t 0), none, none, [], none⟩,
  ⟨(some 7), .len (.t 6), none, none, [], none⟩,
  ⟨(some 8), .bin .lss (.t 5) (.t 7), none, none, [], none⟩]
def ac_law07_Refs_3 : AC := .reg l_law07_Refs_3
def ac_law07_Refs_4 : AC := .cond (.t 8) .skip (.exit 0)
def ac_law07_Refs_5 : AC := .seq ac_law07_Refs_3 ac_law07_Refs_4
def l_law07_Refs_6 : List AOp := [⟨(some 11), .mv (.t 3), none, none, [], none⟩,
  ⟨(some 12), .mv (.t 0), none, none, [], none⟩,
  ⟨(some 13), .mv (.t 4), none, none, [], none⟩,
  ⟨(some 14), .isl 4 (.t 12) (.t 13), none, none, [], none⟩,
  ⟨(some 15), .load (some 4) (.t 14), none, none, [], none⟩,
  ⟨(some 16), .blds false [(.int .i64 0), (.int .i64 0), (.int .i64 0), (.int .i64 0)] 1 [(0, (.t 15))], none, none, [], none⟩,
  ⟨(some 17), .app 4 32 [(.int .i64 0), (.int .i64 0), (.int .i64 0), (.int .i64 0)] (.t 11) (.t 16), none, none, [], none⟩,
  ⟨(some 3), .mv (.t 17), none, none, [], none⟩]
def ac_law07_Refs_6 : AC := .reg l_law07_Refs_6
def ac_law07_Refs_7 : AC := .block 1 ac_law07_Refs_6
def l_law07_Refs_8 : List AOp := [⟨(some 9), .mv (.t 4), none, none, [], none⟩,
  ⟨(some 10), .bin .add (.t 9) (.k (.int .i64 1)), none, none, [], none⟩,
  ⟨(some 4), .mv (.t 10), none, none, [], none⟩]
def ac_law07_Refs_8 : AC := .reg l_law07_Refs_8
def ac_law07_Refs_9 : AC := .seq ac_law07_Refs_7 ac_law07_Refs_8
def ac_law07_Refs_10 : AC := .seq ac_law07_Refs_5 ac_law07_Refs_9
def ac_law07_Refs_11 : AC := .loop [0, 3, 4] 1 ac_law07_Refs_10
def ac_law07_Refs_12 : AC := .block 0 ac_law07_Refs_11
def ac_law07_Refs_13 : AC := .seq ac_law07_Refs_2 ac_law07_Refs_12
def l_law07_Refs_14 : List AOp := [⟨(some 18), .mv (.t 3), none, none, [], none⟩,
  ⟨(some 2), .mv (.t 18), none, none, [], none⟩]
def ac_law07_Refs_14 : AC := .reg l_law07_Refs_14
def ac_law07_Refs_15 : AC := .seq ac_law07_Refs_14 .ret
def ac_law07_Refs_16 : AC := .seq ac_law07_Refs_13 ac_law07_Refs_15
def ac_law07_Refs_17 : AC := .seq ac_law07_Refs_1 ac_law07_Refs_16
def ac_law07_Refs_18 : AC := .seq ac_law07_Refs_0 ac_law07_Refs_17
def ac_law07_Refs : AC := ac_law07_Refs_18
theorem comp_law07_Refs : compF Try.prog [3] (drawR Try.prog [3] Try.f12.ntmps) [([0, 3, 4], 1)] 1 Try.f12 = some (ac_law07_Refs, [.t 2]) := by kernel_rfl
def U_law07_Refs := (And.intro (And.intro (And.intro (And.intro (And.intro @ac_law07_Refs.eq_1 (@mR _ _ ac_law07_Refs_0.eq_1)) (And.intro (@mR _ _ ac_law07_Refs_1.eq_1) (@mR _ _ ac_law07_Refs_2.eq_1))) (And.intro (And.intro (@mR _ _ ac_law07_Refs_3.eq_1) (@mU _ _ ac_law07_Refs_4.eq_1)) (@mU _ _ ac_law07_Refs_5.eq_1))) (And.intro (And.intro (And.intro (@mR _ _ ac_law07_Refs_6.eq_1) (@mU _ _ ac_law07_Refs_7.eq_1)) (And.intro (@mR _ _ ac_law07_Refs_8.eq_1) (@mU _ _ ac_law07_Refs_9.eq_1))) (And.intro (And.intro (@mU _ _ ac_law07_Refs_10.eq_1) (@mU _ _ ac_law07_Refs_11.eq_1)) (@mU _ _ ac_law07_Refs_12.eq_1)))) (And.intro (And.intro (And.intro (And.intro (@mU _ _ ac_law07_Refs_13.eq_1) (@mR _ _ ac_law07_Refs_14.eq_1)) (And.intro (@mU _ _ ac_law07_Refs_15.eq_1) (@mU _ _ ac_law07_Refs_16.eq_1))) (And.intro (And.intro (@mU _ _ ac_law07_Refs_17.eq_1) (@mU _ _ ac_law07_Refs_18.eq_1)) @l_law07_Refs_0.eq_1)) (And.intro (And.intro (And.intro @l_law07_Refs_1.eq_1 @l_law07_Refs_2.eq_1) @l_law07_Refs_3.eq_1) (And.intro (And.intro @l_law07_Refs_6.eq_1 @l_law07_Refs_8.eq_1) @l_law07_Refs_14.eq_1))))

/- scoria/leaf.ReadLeaf -/
def l_leaf_ReadLeaf_0 : List AOp := [⟨(some 2), .mv (.k (.slc [])), none, none, [], none⟩,
  ⟨(some 3), .mv (.k (.int .i64 0)), none, none, [], none⟩]
def ac_leaf_ReadLeaf_0 : AC := .reg l_leaf_ReadLeaf_0
def l_leaf_ReadLeaf_1 : List AOp := [⟨(some 4), .mv (.t 0), none, none, [], none⟩,
  ⟨(some 5), .call false 26 [], none, none, [], none⟩,
  ⟨(some 6), .call false 30 [(.t 4), (.t 5), (.k (.fn (.func 24) [] [])), (.k (.fn (.func 31) [] []))], none, none, [], none⟩,
  ⟨(some 7), .ext 0 (.t 6), none, none, [], none⟩,
  ⟨(some 8), .ext 1 (.t 6), none, none, [], none⟩,
  ⟨(some 2), .mv (.t 7), none, none, [], none⟩,
  ⟨(some 3), .mv (.t 8), none, none, [], none⟩]
def ac_leaf_ReadLeaf_1 : AC := .reg l_leaf_ReadLeaf_1
def ac_leaf_ReadLeaf_2 : AC := .seq ac_leaf_ReadLeaf_1 .ret
def ac_leaf_ReadLeaf_3 : AC := .seq ac_leaf_ReadLeaf_0 ac_leaf_ReadLeaf_2
def ac_leaf_ReadLeaf : AC := ac_leaf_ReadLeaf_3
theorem comp_leaf_ReadLeaf : compF Try.prog [] (drawR Try.prog [] Try.f13.ntmps) [] 1 Try.f13 = some (ac_leaf_ReadLeaf, [.t 2, .t 3]) := by kernel_rfl
def U_leaf_ReadLeaf := (And.intro (And.intro (And.intro @ac_leaf_ReadLeaf.eq_1 (@mR _ _ ac_leaf_ReadLeaf_0.eq_1)) (And.intro (@mR _ _ ac_leaf_ReadLeaf_1.eq_1) (@mU _ _ ac_leaf_ReadLeaf_2.eq_1))) (And.intro (And.intro (@mU _ _ ac_leaf_ReadLeaf_3.eq_1) @l_leaf_ReadLeaf_0.eq_1) @l_leaf_ReadLeaf_1.eq_1))

/- scoria/scoriaref09.ReadLeaf -/
def l_ref09_ReadLeaf_0 : List AOp := [⟨(some 2), .mv (.k (.slc [])), none, none, [], none⟩,
  ⟨(some 3), .mv (.k (.int .i64 0)), none, none, [], none⟩]
def ac_ref09_ReadLeaf_0 : AC := .reg l_ref09_ReadLeaf_0
def l_ref09_ReadLeaf_1 : List AOp := [⟨(some 4), .nilown 4, none, none, [], none⟩]
def ac_ref09_ReadLeaf_1 : AC := .reg l_ref09_ReadLeaf_1
def l_ref09_ReadLeaf_2 : List AOp := [⟨(some 5), .mv (.k (.int .i64 1)), none, none, [], none⟩]
def ac_ref09_ReadLeaf_2 : AC := .reg l_ref09_ReadLeaf_2
def l_ref09_ReadLeaf_3 : List AOp := [⟨(some 8), .mv (.t 5), none, none, [], none⟩,
  ⟨(some 9), .mv (.t 0), none, none, [], none⟩,
  ⟨(some 10), .lens (.t 9), none, none, [], none⟩,
  ⟨(some 11), .bin .lss (.t 8) (.t 10), none, none, [], none⟩,
  ⟨(some 12), .mv (.t 11), none, none, [], none⟩,
  ⟨(some 13), .mv (.t 4), (some (12, true)), none, [], none⟩,
  ⟨(some 14), .len (.t 13), (some (12, true)), none, [], none⟩,
  ⟨(some 15), .bin .lss (.t 14) (.k (.int .i64 8)), (some (12, true)), none, [], none⟩,
  ⟨(some 16), .pick (.t 12) (.t 15) (.k (.bool false)), none, none, [], none⟩]
def ac_ref09_ReadLeaf_3 : AC := .reg l_ref09_ReadLeaf_3
def ac_ref09_ReadLeaf_4 : AC := .cond (.t 16) .skip (.exit 0)
def ac_ref09_ReadLeaf_5 : AC := .seq ac_ref09_ReadLeaf_3 ac_ref09_ReadLeaf_4
def l_ref09_ReadLeaf_6 : List AOp := [⟨(some 19), .mv (.t 4), none, none, [], none⟩,
  ⟨(some 20), .mv (.t 0), none, none, [], none⟩,
  ⟨(some 21), .mv (.t 5), none, none, [], none⟩,
  ⟨(some 22), .call false 32 [(.t 20), (.t 21), (.k (.int .i64 3))], none, none, [], none⟩,
  ⟨(some 23), .mv (.t 0), none, none, [], none⟩,
  ⟨(some 24), .mv (.t 5), none, none, [], none⟩,
  ⟨(some 25), .bin .add (.t 24) (.k (.int .i64 3)), none, none, [], none⟩,
  ⟨(some 26), .call false 32 [(.t 23), (.t 25), (.k (.int .i64 4))], none, none, [], none⟩,
  ⟨(some 27), .mv (.t 0), none, none, [], none⟩,
  ⟨(some 28), .mv (.t 5), none, none, [], none⟩,
  ⟨(some 29), .bin .add (.t 28) (.k (.int .i64 7)), none, none, [], none⟩,
  ⟨(some 30), .call false 32 [(.t 27), (.t 29), (.k (.int .i64 1))], none, none, [], none⟩,
  ⟨(some 31), .mv (.t 0), none, none, [], none⟩,
  ⟨(some 32), .mv (.t 5), none, none, [], none⟩,
  ⟨(some 33), .bin .add (.t 32) (.k (.int .i64 8)), none, none, [], none⟩,
  ⟨(some 34), .call false 32 [(.t 31), (.t 33), (.k (.int .i64 2))], none, none, [], none⟩,
  ⟨(some 35), .build [(.int .i64 0), (.int .i64 0), (.int .i64 0), (.int .i64 0)] [(0, 1, (.t 22)), (1, 1, (.t 26)), (2, 1, (.t 30)), (3, 1, (.t 34))], none, none, [], none⟩,
  ⟨(some 36), .blds false [(.int .i64 0), (.int .i64 0), (.int .i64 0), (.int .i64 0)] 1 [(0, (.t 35))], none, none, [], none⟩,
  ⟨(some 37), .app 4 32 [(.int .i64 0), (.int .i64 0), (.int .i64 0), (.int .i64 0)] (.t 19) (.t 36), none, none, [], none⟩,
  ⟨(some 4), .mv (.t 37), none, none, [], none⟩]
def ac_ref09_ReadLeaf_6 : AC := .reg l_ref09_ReadLeaf_6
def ac_ref09_ReadLeaf_7 : AC := .block 1 ac_ref09_ReadLeaf_6
def l_ref09_ReadLeaf_8 : List AOp := [⟨(some 17), .mv (.t 5), none, none, [], none⟩,
  ⟨(some 18), .bin .add (.t 17) (.k (.int .i64 10)), none, none, [], none⟩,
  ⟨(some 5), .mv (.t 18), none, none, [], none⟩]
def ac_ref09_ReadLeaf_8 : AC := .reg l_ref09_ReadLeaf_8
def ac_ref09_ReadLeaf_9 : AC := .seq ac_ref09_ReadLeaf_7 ac_ref09_ReadLeaf_8
def ac_ref09_ReadLeaf_10 : AC := .seq ac_ref09_ReadLeaf_5 ac_ref09_ReadLeaf_9
def ac_ref09_ReadLeaf_11 : AC := .loop [0, 4, 5] 1 ac_ref09_ReadLeaf_10
def ac_ref09_ReadLeaf_12 : AC := .block 0 ac_ref09_ReadLeaf_11
def ac_ref09_ReadLeaf_13 : AC := .seq ac_ref09_ReadLeaf_2 ac_ref09_ReadLeaf_12
def l_ref09_ReadLeaf_14 : List AOp := [⟨(some 39), .mv (.t 4), none, none, [], none⟩,
  ⟨(some 40), .call false 11 [(.t 39)], none, none, [], none⟩,
  ⟨(some 38), .mv (.t 40), none, none, [], none⟩,
  ⟨(some 41), .ext 0 (.t 38), none, none, [], none⟩,
  ⟨(some 42), .ext 1 (.t 38), none, none, [], none⟩,
  ⟨(some 6), .mv (.t 41), none, none, [], none⟩,
  ⟨(some 7), .mv (.t 42), none, none, [], none⟩]
def ac_ref09_ReadLeaf_14 : AC := .reg l_ref09_ReadLeaf_14
def l_ref09_ReadLeaf_15 : List AOp := [⟨(some 43), .mv (.t 7), none, none, [], none⟩,
  ⟨(some 44), .bin .neq (.t 43) (.k (.int .i64 0)), none, none, [], none⟩,
  ⟨(some 45), .mv (.t 44), none, none, [], none⟩,
  ⟨(some 46), .mv (.t 6), (some (45, false)), none, [], none⟩,
  ⟨(some 47), .mv (.t 0), (some (45, false)), none, [], none⟩,
  ⟨(some 48), .bin .neq (.t 46) (.t 47), (some (45, false)), none, [], none⟩,
  ⟨(some 49), .pick (.t 45) (.k (.bool true)) (.t 48), none, none, [], none⟩]
def ac_ref09_ReadLeaf_15 : AC := .reg l_ref09_ReadLeaf_15
def l_ref09_ReadLeaf_16 : List AOp := [⟨(some 2), .mv (.k (.slc [])), none, none, [], none⟩,
  ⟨(some 3), .mv (.k (.int .i64 3)), none, none, [], none⟩]
def ac_ref09_ReadLeaf_16 : AC := .reg l_ref09_ReadLeaf_16
def ac_ref09_ReadLeaf_17 : AC := .seq ac_ref09_ReadLeaf_16 .ret
def ac_ref09_ReadLeaf_18 : AC := .cond (.t 49) ac_ref09_ReadLeaf_17 .skip
def ac_ref09_ReadLeaf_19 : AC := .seq ac_ref09_ReadLeaf_15 ac_ref09_ReadLeaf_18
def l_ref09_ReadLeaf_20 : List AOp := [⟨(some 50), .mv (.t 4), none, none, [], none⟩,
  ⟨(some 2), .mv (.t 50), none, none, [], none⟩,
  ⟨(some 3), .mv (.k (.int .i64 0)), none, none, [], none⟩]
def ac_ref09_ReadLeaf_20 : AC := .reg l_ref09_ReadLeaf_20
def ac_ref09_ReadLeaf_21 : AC := .seq ac_ref09_ReadLeaf_20 .ret
def ac_ref09_ReadLeaf_22 : AC := .seq ac_ref09_ReadLeaf_19 ac_ref09_ReadLeaf_21
def ac_ref09_ReadLeaf_23 : AC := .seq ac_ref09_ReadLeaf_14 ac_ref09_ReadLeaf_22
def ac_ref09_ReadLeaf_24 : AC := .seq ac_ref09_ReadLeaf_13 ac_ref09_ReadLeaf_23
def ac_ref09_ReadLeaf_25 : AC := .seq ac_ref09_ReadLeaf_1 ac_ref09_ReadLeaf_24
def ac_ref09_ReadLeaf_26 : AC := .seq ac_ref09_ReadLeaf_0 ac_ref09_ReadLeaf_25
def ac_ref09_ReadLeaf : AC := ac_ref09_ReadLeaf_26
theorem comp_ref09_ReadLeaf : compF Try.prog [4] (drawR Try.prog [4] Try.f14.ntmps) [([0, 4, 5], 1)] 1 Try.f14 = some (ac_ref09_ReadLeaf, [.t 2, .t 3]) := by kernel_rfl
def U_ref09_ReadLeaf := (And.intro (And.intro (And.intro (And.intro (And.intro (And.intro @ac_ref09_ReadLeaf.eq_1 (@mR _ _ ac_ref09_ReadLeaf_0.eq_1)) (@mR _ _ ac_ref09_ReadLeaf_1.eq_1)) (And.intro (@mR _ _ ac_ref09_ReadLeaf_2.eq_1) (@mR _ _ ac_ref09_ReadLeaf_3.eq_1))) (And.intro (And.intro (And.intro (@mU _ _ ac_ref09_ReadLeaf_4.eq_1) (@mU _ _ ac_ref09_ReadLeaf_5.eq_1)) (@mR _ _ ac_ref09_ReadLeaf_6.eq_1)) (And.intro (@mU _ _ ac_ref09_ReadLeaf_7.eq_1) (@mR _ _ ac_ref09_ReadLeaf_8.eq_1)))) (And.intro (And.intro (And.intro (And.intro (@mU _ _ ac_ref09_ReadLeaf_9.eq_1) (@mU _ _ ac_ref09_ReadLeaf_10.eq_1)) (@mU _ _ ac_ref09_ReadLeaf_11.eq_1)) (And.intro (@mU _ _ ac_ref09_ReadLeaf_12.eq_1) (@mU _ _ ac_ref09_ReadLeaf_13.eq_1))) (And.intro (And.intro (@mR _ _ ac_ref09_ReadLeaf_14.eq_1) (@mR _ _ ac_ref09_ReadLeaf_15.eq_1)) (And.intro (@mR _ _ ac_ref09_ReadLeaf_16.eq_1) (@mU _ _ ac_ref09_ReadLeaf_17.eq_1))))) (And.intro (And.intro (And.intro (And.intro (And.intro (@mU _ _ ac_ref09_ReadLeaf_18.eq_1) (@mU _ _ ac_ref09_ReadLeaf_19.eq_1)) (@mR _ _ ac_ref09_ReadLeaf_20.eq_1)) (And.intro (@mU _ _ ac_ref09_ReadLeaf_21.eq_1) (@mU _ _ ac_ref09_ReadLeaf_22.eq_1))) (And.intro (And.intro (And.intro (@mU _ _ ac_ref09_ReadLeaf_23.eq_1) (@mU _ _ ac_ref09_ReadLeaf_24.eq_1)) (@mU _ _ ac_ref09_ReadLeaf_25.eq_1)) (And.intro (@mU _ _ ac_ref09_ReadLeaf_26.eq_1) @l_ref09_ReadLeaf_0.eq_1))) (And.intro (And.intro (And.intro (And.intro @l_ref09_ReadLeaf_1.eq_1 @l_ref09_ReadLeaf_2.eq_1) @l_ref09_ReadLeaf_3.eq_1) (And.intro @l_ref09_ReadLeaf_6.eq_1 @l_ref09_ReadLeaf_8.eq_1)) (And.intro (And.intro @l_ref09_ReadLeaf_14.eq_1 @l_ref09_ReadLeaf_15.eq_1) (And.intro @l_ref09_ReadLeaf_16.eq_1 @l_ref09_ReadLeaf_20.eq_1)))))

/- scoria/leaf.ReadInner -/
def l_leaf_ReadInner_0 : List AOp := [⟨(some 2), .mv (.k (.slc [])), none, none, [], none⟩,
  ⟨(some 3), .mv (.k (.int .i64 0)), none, none, [], none⟩]
def ac_leaf_ReadInner_0 : AC := .reg l_leaf_ReadInner_0
def l_leaf_ReadInner_1 : List AOp := [⟨(some 4), .mv (.t 0), none, none, [], none⟩,
  ⟨(some 5), .call false 34 [], none, none, [], none⟩,
  ⟨(some 6), .call false 33 [(.t 4), (.t 5), (.k (.fn (.func 35) [] [])), (.k (.fn (.func 36) [] []))], none, none, [], none⟩,
  ⟨(some 7), .ext 0 (.t 6), none, none, [], none⟩,
  ⟨(some 8), .ext 1 (.t 6), none, none, [], none⟩,
  ⟨(some 2), .mv (.t 7), none, none, [], none⟩,
  ⟨(some 3), .mv (.t 8), none, none, [], none⟩]
def ac_leaf_ReadInner_1 : AC := .reg l_leaf_ReadInner_1
def ac_leaf_ReadInner_2 : AC := .seq ac_leaf_ReadInner_1 .ret
def ac_leaf_ReadInner_3 : AC := .seq ac_leaf_ReadInner_0 ac_leaf_ReadInner_2
def ac_leaf_ReadInner : AC := ac_leaf_ReadInner_3
theorem comp_leaf_ReadInner : compF Try.prog [] (drawR Try.prog [] Try.f15.ntmps) [] 1 Try.f15 = some (ac_leaf_ReadInner, [.t 2, .t 3]) := by kernel_rfl
def U_leaf_ReadInner := (And.intro (And.intro (And.intro @ac_leaf_ReadInner.eq_1 (@mR _ _ ac_leaf_ReadInner_0.eq_1)) (And.intro (@mR _ _ ac_leaf_ReadInner_1.eq_1) (@mU _ _ ac_leaf_ReadInner_2.eq_1))) (And.intro (And.intro (@mU _ _ ac_leaf_ReadInner_3.eq_1) @l_leaf_ReadInner_0.eq_1) @l_leaf_ReadInner_1.eq_1))

/- scoria/scoriaref09.ReadInner -/
def l_ref09_ReadInner_0 : List AOp := [⟨(some 2), .mv (.k (.slc [])), none, none, [], none⟩,
  ⟨(some 3), .mv (.k (.int .i64 0)), none, none, [], none⟩]
def ac_ref09_ReadInner_0 : AC := .reg l_ref09_ReadInner_0
def l_ref09_ReadInner_1 : List AOp := [⟨(some 4), .nilown 2, none, none, [], none⟩]
def ac_ref09_ReadInner_1 : AC := .reg l_ref09_ReadInner_1
def l_ref09_ReadInner_2 : List AOp := [⟨(some 5), .mv (.k (.int .i64 1)), none, none, [], none⟩]
def ac_ref09_ReadInner_2 : AC := .reg l_ref09_ReadInner_2
def l_ref09_ReadInner_3 : List AOp := [⟨(some 8), .mv (.t 5), none, none, [], none⟩,
  ⟨(some 9), .mv (.t 0), none, none, [], none⟩,
  ⟨(some 10), .lens (.t 9), none, none, [], none⟩,
  ⟨(some 11), .bin .lss (.t 8) (.t 10), none, none, [], none⟩,
  ⟨(some 12), .mv (.t 11), none, none, [], none⟩,
  ⟨(some 13), .mv (.t 4), (some (12, true)), none, [], none⟩,
  ⟨(some 14), .len (.t 13), (some (12, true)), none, [], none⟩,
  ⟨(some 15), .bin .lss (.t 14) (.k (.int .i64 8)), (some (12, true)), none, [], none⟩,
  ⟨(some 16), .pick (.t 12) (.t 15) (.k (.bool false)), none, none, [], none⟩]
def ac_ref09_ReadInner_3 : AC := .reg l_ref09_ReadInner_3
def ac_ref09_ReadInner_4 : AC := .cond (.t 16) .skip (.exit 0)
def ac_ref09_ReadInner_5 : AC := .seq ac_ref09_ReadInner_3 ac_ref09_ReadInner_4
def l_ref09_ReadInner_6 : List AOp := [⟨(some 19), .mv (.t 4), none, none, [], none⟩,
  ⟨(some 20), .mv (.t 0), none, none, [], none⟩,
  ⟨(some 21), .mv (.t 5), none, none, [], none⟩,
  ⟨(some 22), .call false 32 [(.t 20), (.t 21), (.k (.int .i64 3))], none, none, [], none⟩,
  ⟨(some 23), .mv (.t 0), none, none, [], none⟩,
  ⟨(some 24), .mv (.t 5), none, none, [], none⟩,
  ⟨(some 25), .bin .add (.t 24) (.k (.int .i64 3)), none, none, [], none⟩,
  ⟨(some 26), .call false 32 [(.t 23), (.t 25), (.k (.int .i64 2))], none, none, [], none⟩,
  ⟨(some 27), .build [(.int .i64 0), (.int .i64 0)] [(0, 1, (.t 22)), (1, 1, (.t 26))], none, none, [], none⟩,
  ⟨(some 28), .blds false [(.int .i64 0), (.int .i64 0)] 1 [(0, (.t 27))], none, none, [], none⟩,
  ⟨(some 29), .app 2 16 [(.int .i64 0), (.int .i64 0)] (.t 19) (.t 28), none, none, [], none⟩,
  ⟨(some 4), .mv (.t 29), none, none, [], none⟩]
def ac_ref09_ReadInner_6 : AC := .reg l_ref09_ReadInner_6
def ac_ref09_ReadInner_7 : AC := .block 1 ac_ref09_ReadInner_6
def l_ref09_ReadInner_8 : List AOp := [⟨(some 17), .mv (.t 5), none, none, [], none⟩,
  ⟨(some 18), .bin .add (.t 17) (.k (.int .i64 5)), none, none, [], none⟩,
  ⟨(some 5), .mv (.t 18), none, none, [], none⟩]
def ac_ref09_ReadInner_8 : AC := .reg l_ref09_ReadInner_8
def ac_ref09_ReadInner_9 : AC := .seq ac_ref09_ReadInner_7 ac_ref09_ReadInner_8
def ac_ref09_ReadInner_10 : AC := .seq ac_ref09_ReadInner_5 ac_ref09_ReadInner_9
def ac_ref09_ReadInner_11 : AC := .loop [0, 4, 5] 1 ac_ref09_ReadInner_10
def ac_ref09_ReadInner_12 : AC := .block 0 ac_ref09_ReadInner_11
def ac_ref09_ReadInner_13 : AC := .seq ac_ref09_ReadInner_2 ac_ref09_ReadInner_12
def l_ref09_ReadInner_14 : List AOp := [⟨(some 31), .mv (.t 4), none, none, [], none⟩,
  ⟨(some 32), .call false 21 [(.t 31)], none, none, [], none⟩,
  ⟨(some 30), .mv (.t 32), none, none, [], none⟩,
  ⟨(some 33), .ext 0 (.t 30), none, none, [], none⟩,
  ⟨(some 34), .ext 1 (.t 30), none, none, [], none⟩,
  ⟨(some 6), .mv (.t 33), none, none, [], none⟩,
  ⟨(some 7), .mv (.t 34), none, none, [], none⟩]
def ac_ref09_ReadInner_14 : AC := .reg l_ref09_ReadInner_14
def l_ref09_ReadInner_15 : List AOp := [⟨(some 35), .mv (.t 7), none, none, [], none⟩,
  ⟨(some 36), .bin .neq (.t 35) (.k (.int .i64 0)), none, none, [], none⟩,
  ⟨(some 37), .mv (.t 36), none, none, [], none⟩,
  ⟨(some 38), .mv (.t 6), (some (37, false)), none, [], none⟩,
  ⟨(some 39), .mv (.t 0), (some (37, false)), none, [], none⟩,
  ⟨(some 40), .bin .neq (.t 38) (.t 39), (some (37, false)), none, [], none⟩,
  ⟨(some 41), .pick (.t 37) (.k (.bool true)) (.t 40), none, none, [], none⟩]
def ac_ref09_ReadInner_15 : AC := .reg l_ref09_ReadInner_15
def l_ref09_ReadInner_16 : List AOp := [⟨(some 2), .mv (.k (.slc [])), none, none, [], none⟩,
  ⟨(some 3), .mv (.k (.int .i64 3)), none, none, [], none⟩]
def ac_ref09_ReadInner_16 : AC := .reg l_ref09_ReadInner_16
def ac_ref09_ReadInner_17 : AC := .seq ac_ref09_ReadInner_16 .ret
def ac_ref09_ReadInner_18 : AC := .cond (.t 41) ac_ref09_ReadInner_17 .skip
def ac_ref09_ReadInner_19 : AC := .seq ac_ref09_ReadInner_15 ac_ref09_ReadInner_18
def l_ref09_ReadInner_20 : List AOp := [⟨(some 42), .mv (.t 4), none, none, [], none⟩,
  ⟨(some 2), .mv (.t 42), none, none, [], none⟩,
  ⟨(some 3), .mv (.k (.int .i64 0)), none, none, [], none⟩]
def ac_ref09_ReadInner_20 : AC := .reg l_ref09_ReadInner_20
def ac_ref09_ReadInner_21 : AC := .seq ac_ref09_ReadInner_20 .ret
def ac_ref09_ReadInner_22 : AC := .seq ac_ref09_ReadInner_19 ac_ref09_ReadInner_21
def ac_ref09_ReadInner_23 : AC := .seq ac_ref09_ReadInner_14 ac_ref09_ReadInner_22
def ac_ref09_ReadInner_24 : AC := .seq ac_ref09_ReadInner_13 ac_ref09_ReadInner_23
def ac_ref09_ReadInner_25 : AC := .seq ac_ref09_ReadInner_1 ac_ref09_ReadInner_24
def ac_ref09_ReadInner_26 : AC := .seq ac_ref09_ReadInner_0 ac_ref09_ReadInner_25
def ac_ref09_ReadInner : AC := ac_ref09_ReadInner_26
theorem comp_ref09_ReadInner : compF Try.prog [4] (drawR Try.prog [4] Try.f16.ntmps) [([0, 4, 5], 1)] 1 Try.f16 = some (ac_ref09_ReadInner, [.t 2, .t 3]) := by kernel_rfl
def U_ref09_ReadInner := (And.intro (And.intro (And.intro (And.intro (And.intro (And.intro @ac_ref09_ReadInner.eq_1 (@mR _ _ ac_ref09_ReadInner_0.eq_1)) (@mR _ _ ac_ref09_ReadInner_1.eq_1)) (And.intro (@mR _ _ ac_ref09_ReadInner_2.eq_1) (@mR _ _ ac_ref09_ReadInner_3.eq_1))) (And.intro (And.intro (And.intro (@mU _ _ ac_ref09_ReadInner_4.eq_1) (@mU _ _ ac_ref09_ReadInner_5.eq_1)) (@mR _ _ ac_ref09_ReadInner_6.eq_1)) (And.intro (@mU _ _ ac_ref09_ReadInner_7.eq_1) (@mR _ _ ac_ref09_ReadInner_8.eq_1)))) (And.intro (And.intro (And.intro (And.intro (@mU _ _ ac_ref09_ReadInner_9.eq_1) (@mU _ _ ac_ref09_ReadInner_10.eq_1)) (@mU _ _ ac_ref09_ReadInner_11.eq_1)) (And.intro (@mU _ _ ac_ref09_ReadInner_12.eq_1) (@mU _ _ ac_ref09_ReadInner_13.eq_1))) (And.intro (And.intro (@mR _ _ ac_ref09_ReadInner_14.eq_1) (@mR _ _ ac_ref09_ReadInner_15.eq_1)) (And.intro (@mR _ _ ac_ref09_ReadInner_16.eq_1) (@mU _ _ ac_ref09_ReadInner_17.eq_1))))) (And.intro (And.intro (And.intro (And.intro (And.intro (@mU _ _ ac_ref09_ReadInner_18.eq_1) (@mU _ _ ac_ref09_ReadInner_19.eq_1)) (@mR _ _ ac_ref09_ReadInner_20.eq_1)) (And.intro (@mU _ _ ac_ref09_ReadInner_21.eq_1) (@mU _ _ ac_ref09_ReadInner_22.eq_1))) (And.intro (And.intro (And.intro (@mU _ _ ac_ref09_ReadInner_23.eq_1) (@mU _ _ ac_ref09_ReadInner_24.eq_1)) (@mU _ _ ac_ref09_ReadInner_25.eq_1)) (And.intro (@mU _ _ ac_ref09_ReadInner_26.eq_1) @l_ref09_ReadInner_0.eq_1))) (And.intro (And.intro (And.intro (And.intro @l_ref09_ReadInner_1.eq_1 @l_ref09_ReadInner_2.eq_1) @l_ref09_ReadInner_3.eq_1) (And.intro @l_ref09_ReadInner_6.eq_1 @l_ref09_ReadInner_8.eq_1)) (And.intro (And.intro @l_ref09_ReadInner_14.eq_1 @l_ref09_ReadInner_15.eq_1) (And.intro @l_ref09_ReadInner_16.eq_1 @l_ref09_ReadInner_20.eq_1)))))

/- scoria/scoriaref09.SameExts -/
def l_ref09_SameExts_0 : List AOp := [⟨(some 4), .mv (.k (.bool false)), none, none, [], none⟩]
def ac_ref09_SameExts_0 : AC := .reg l_ref09_SameExts_0
def l_ref09_SameExts_1 : List AOp := [⟨(some 6), .mv (.t 0), none, none, [], none⟩,
  ⟨(some 7), .len (.t 6), none, none, [], none⟩,
  ⟨(some 8), .mv (.t 1), none, none, [], none⟩,
  ⟨(some 9), .len (.t 8), none, none, [], none⟩,
  ⟨(some 10), .bin .neq (.t 7) (.t 9), none, none, [], none⟩]
def ac_ref09_SameExts_1 : AC := .reg l_ref09_SameExts_1
def l_ref09_SameExts_2 : List AOp := [⟨(some 4), .mv (.k (.bool false)), none, none, [], none⟩]
def ac_ref09_SameExts_2 : AC := .reg l_ref09_SameExts_2
def ac_ref09_SameExts_3 : AC := .seq ac_ref09_SameExts_2 .ret
def ac_ref09_SameExts_4 : AC := .cond (.t 10) ac_ref09_SameExts_3 .skip
def ac_ref09_SameExts_5 : AC := .seq ac_ref09_SameExts_1 ac_ref09_SameExts_4
def l_ref09_SameExts_6 : List AOp := [⟨(some 5), .mv (.k (.int .i64 0)), none, none, [], none⟩]
def ac_ref09_SameExts_6 : AC := .reg l_ref09_SameExts_6
def l_ref09_SameExts_7 : List AOp := [⟨(some 11), .mv (.t 5), none, none, [], none⟩,
  ⟨(some 12), .mv (.t 0), none, none, [], none⟩,
  ⟨(some 13), .len (.t 12), none, none, [], none⟩,
  ⟨(some 14), .bin .lss (.t 11) (.t 13), none, none, [], none⟩]
def ac_ref09_SameExts_7 : AC := .reg l_ref09_SameExts_7
def ac_ref09_SameExts_8 : AC := .cond (.t 14) .skip (.exit 0)
def ac_ref09_SameExts_9 : AC := .seq ac_ref09_SameExts_7 ac_ref09_SameExts_8
def l_ref09_SameExts_10 : List AOp := [⟨(some 17), .mv (.t 0), none, none, [], none⟩,
  ⟨(some 18), .mv (.t 5), none, none, [], none⟩,
  ⟨(some 19), .isl 4 (.t 17) (.t 18), none, none, [], none⟩,
  ⟨(some 20), .load (some 4) (.t 19), none, none, [], none⟩,
  ⟨(some 21), .mv (.t 1), none, none, [], none⟩,
  ⟨(some 22), .mv (.t 5), none, none, [], none⟩,
  ⟨(some 23), .isl 4 (.t 21) (.t 22), none, none, [], none⟩,
  ⟨(some 24), .load (some 4) (.t 23), none, none, [], none⟩,
  ⟨(some 25), .eqs true [.i, .i, .i, .i] (.t 20) (.t 24), none, none, [], none⟩]
def ac_ref09_SameExts_10 : AC := .dreg 0 l_ref09_SameExts_10
def l_ref09_SameExts_11 : List AOp := [⟨(some 4), .mv (.k (.bool false)), none, none, [], none⟩]
def ac_ref09_SameExts_11 : AC := .reg l_ref09_SameExts_11
def ac_ref09_SameExts_12 : AC := .seq ac_ref09_SameExts_11 .ret
def ac_ref09_SameExts_13 : AC := .cond (.t 25) ac_ref09_SameExts_12 .skip
def ac_ref09_SameExts_14 : AC := .seq ac_ref09_SameExts_10 ac_ref09_SameExts_13
def ac_ref09_SameExts_15 : AC := .block 1 ac_ref09_SameExts_14
def l_ref09_SameExts_16 : List AOp := [⟨(some 15), .mv (.t 5), none, none, [], none⟩,
  ⟨(some 16), .bin .add (.t 15) (.k (.int .i64 1)), none, none, [], none⟩,
  ⟨(some 5), .mv (.t 16), none, none, [], none⟩]
def ac_ref09_SameExts_16 : AC := .reg l_ref09_SameExts_16
def ac_ref09_SameExts_17 : AC := .seq ac_ref09_SameExts_15 ac_ref09_SameExts_16
def ac_ref09_SameExts_18 : AC := .seq ac_ref09_SameExts_9 ac_ref09_SameExts_17
def ac_ref09_SameExts_19 : AC := .loop [0, 1, 5] 0 ac_ref09_SameExts_18
def ac_ref09_SameExts_20 : AC := .block 0 ac_ref09_SameExts_19
def ac_ref09_SameExts_21 : AC := .seq ac_ref09_SameExts_6 ac_ref09_SameExts_20
def l_ref09_SameExts_22 : List AOp := [⟨(some 4), .mv (.k (.bool true)), none, none, [], none⟩]
def ac_ref09_SameExts_22 : AC := .reg l_ref09_SameExts_22
def ac_ref09_SameExts_23 : AC := .seq ac_ref09_SameExts_22 .ret
def ac_ref09_SameExts_24 : AC := .seq ac_ref09_SameExts_21 ac_ref09_SameExts_23
def ac_ref09_SameExts_25 : AC := .seq ac_ref09_SameExts_5 ac_ref09_SameExts_24
def ac_ref09_SameExts_26 : AC := .seq ac_ref09_SameExts_0 ac_ref09_SameExts_25
def ac_ref09_SameExts : AC := ac_ref09_SameExts_26
theorem comp_ref09_SameExts : compF Try.prog [] (drawR Try.prog [] Try.f17.ntmps) [([0, 1, 5], 0)] 2 Try.f17 = some (ac_ref09_SameExts, [.t 4]) := by kernel_rfl
def U_ref09_SameExts := (And.intro (And.intro (And.intro (And.intro (And.intro (And.intro @ac_ref09_SameExts.eq_1 (@mR _ _ ac_ref09_SameExts_0.eq_1)) (@mR _ _ ac_ref09_SameExts_1.eq_1)) (And.intro (@mR _ _ ac_ref09_SameExts_2.eq_1) (@mU _ _ ac_ref09_SameExts_3.eq_1))) (And.intro (And.intro (And.intro (@mU _ _ ac_ref09_SameExts_4.eq_1) (@mU _ _ ac_ref09_SameExts_5.eq_1)) (@mR _ _ ac_ref09_SameExts_6.eq_1)) (And.intro (@mR _ _ ac_ref09_SameExts_7.eq_1) (@mU _ _ ac_ref09_SameExts_8.eq_1)))) (And.intro (And.intro (And.intro (And.intro (@mU _ _ ac_ref09_SameExts_9.eq_1) (@mD _ _ _ ac_ref09_SameExts_10.eq_1)) (@mR _ _ ac_ref09_SameExts_11.eq_1)) (And.intro (@mU _ _ ac_ref09_SameExts_12.eq_1) (@mU _ _ ac_ref09_SameExts_13.eq_1))) (And.intro (And.intro (@mU _ _ ac_ref09_SameExts_14.eq_1) (@mU _ _ ac_ref09_SameExts_15.eq_1)) (And.intro (@mR _ _ ac_ref09_SameExts_16.eq_1) (@mU _ _ ac_ref09_SameExts_17.eq_1))))) (And.intro (And.intro (And.intro (And.intro (And.intro (@mU _ _ ac_ref09_SameExts_18.eq_1) (@mU _ _ ac_ref09_SameExts_19.eq_1)) (@mU _ _ ac_ref09_SameExts_20.eq_1)) (And.intro (@mU _ _ ac_ref09_SameExts_21.eq_1) (@mR _ _ ac_ref09_SameExts_22.eq_1))) (And.intro (And.intro (@mU _ _ ac_ref09_SameExts_23.eq_1) (@mU _ _ ac_ref09_SameExts_24.eq_1)) (And.intro (@mU _ _ ac_ref09_SameExts_25.eq_1) (@mU _ _ ac_ref09_SameExts_26.eq_1)))) (And.intro (And.intro (And.intro (And.intro @l_ref09_SameExts_0.eq_1 @l_ref09_SameExts_1.eq_1) @l_ref09_SameExts_2.eq_1) (And.intro @l_ref09_SameExts_6.eq_1 @l_ref09_SameExts_7.eq_1)) (And.intro (And.intro @l_ref09_SameExts_10.eq_1 @l_ref09_SameExts_11.eq_1) (And.intro @l_ref09_SameExts_16.eq_1 @l_ref09_SameExts_22.eq_1)))))

/- scoria/scoriaref09.Same -/
def l_ref09_Same_0 : List AOp := [⟨(some 4), .mv (.k (.bool false)), none, none, [], none⟩]
def ac_ref09_Same_0 : AC := .reg l_ref09_Same_0
def l_ref09_Same_1 : List AOp := [⟨(some 6), .mv (.t 0), none, none, [], none⟩,
  ⟨(some 7), .len (.t 6), none, none, [], none⟩,
  ⟨(some 8), .mv (.t 1), none, none, [], none⟩,
  ⟨(some 9), .len (.t 8), none, none, [], none⟩,
  ⟨(some 10), .bin .neq (.t 7) (.t 9), none, none, [], none⟩]
def ac_ref09_Same_1 : AC := .reg l_ref09_Same_1
def l_ref09_Same_2 : List AOp := [⟨(some 4), .mv (.k (.bool false)), none, none, [], none⟩]
def ac_ref09_Same_2 : AC := .reg l_ref09_Same_2
def ac_ref09_Same_3 : AC := .seq ac_ref09_Same_2 .ret
def ac_ref09_Same_4 : AC := .cond (.t 10) ac_ref09_Same_3 .skip
def ac_ref09_Same_5 : AC := .seq ac_ref09_Same_1 ac_ref09_Same_4
def l_ref09_Same_6 : List AOp := [⟨(some 5), .mv (.k (.int .i64 0)), none, none, [], none⟩]
def ac_ref09_Same_6 : AC := .reg l_ref09_Same_6
def l_ref09_Same_7 : List AOp := [⟨(some 11), .mv (.t 5), none, none, [], none⟩,
  ⟨(some 12), .mv (.t 0), none, none, [], none⟩,
  ⟨(some 13), .len (.t 12), none, none, [], none⟩,
  ⟨(some 14), .bin .lss (.t 11) (.t 13), none, none, [], none⟩]
def ac_ref09_Same_7 : AC := .reg l_ref09_Same_7
def ac_ref09_Same_8 : AC := .cond (.t 14) .skip (.exit 0)
def ac_ref09_Same_9 : AC := .seq ac_ref09_Same_7 ac_ref09_Same_8
def l_ref09_Same_10 : List AOp := [⟨(some 17), .mv (.t 0), none, none, [], none⟩,
  ⟨(some 18), .mv (.t 5), none, none, [], none⟩,
  ⟨(some 19), .isl 2 (.t 17) (.t 18), none, none, [], none⟩,
  ⟨(some 20), .load (some 2) (.t 19), none, none, [], none⟩,
  ⟨(some 21), .mv (.t 1), none, none, [], none⟩,
  ⟨(some 22), .mv (.t 5), none, none, [], none⟩,
  ⟨(some 23), .isl 2 (.t 21) (.t 22), none, none, [], none⟩,
  ⟨(some 24), .load (some 2) (.t 23), none, none, [], none⟩,
  ⟨(some 25), .eqs true [.i, .i] (.t 20) (.t 24), none, none, [], none⟩]
def ac_ref09_Same_10 : AC := .dreg 0 l_ref09_Same_10
def l_ref09_Same_11 : List AOp := [⟨(some 4), .mv (.k (.bool false)), none, none, [], none⟩]
def ac_ref09_Same_11 : AC := .reg l_ref09_Same_11
def ac_ref09_Same_12 : AC := .seq ac_ref09_Same_11 .ret
def ac_ref09_Same_13 : AC := .cond (.t 25) ac_ref09_Same_12 .skip
def ac_ref09_Same_14 : AC := .seq ac_ref09_Same_10 ac_ref09_Same_13
def ac_ref09_Same_15 : AC := .block 1 ac_ref09_Same_14
def l_ref09_Same_16 : List AOp := [⟨(some 15), .mv (.t 5), none, none, [], none⟩,
  ⟨(some 16), .bin .add (.t 15) (.k (.int .i64 1)), none, none, [], none⟩,
  ⟨(some 5), .mv (.t 16), none, none, [], none⟩]
def ac_ref09_Same_16 : AC := .reg l_ref09_Same_16
def ac_ref09_Same_17 : AC := .seq ac_ref09_Same_15 ac_ref09_Same_16
def ac_ref09_Same_18 : AC := .seq ac_ref09_Same_9 ac_ref09_Same_17
def ac_ref09_Same_19 : AC := .loop [0, 1, 5] 0 ac_ref09_Same_18
def ac_ref09_Same_20 : AC := .block 0 ac_ref09_Same_19
def ac_ref09_Same_21 : AC := .seq ac_ref09_Same_6 ac_ref09_Same_20
def l_ref09_Same_22 : List AOp := [⟨(some 4), .mv (.k (.bool true)), none, none, [], none⟩]
def ac_ref09_Same_22 : AC := .reg l_ref09_Same_22
def ac_ref09_Same_23 : AC := .seq ac_ref09_Same_22 .ret
def ac_ref09_Same_24 : AC := .seq ac_ref09_Same_21 ac_ref09_Same_23
def ac_ref09_Same_25 : AC := .seq ac_ref09_Same_5 ac_ref09_Same_24
def ac_ref09_Same_26 : AC := .seq ac_ref09_Same_0 ac_ref09_Same_25
def ac_ref09_Same : AC := ac_ref09_Same_26
theorem comp_ref09_Same : compF Try.prog [] (drawR Try.prog [] Try.f18.ntmps) [([0, 1, 5], 0)] 2 Try.f18 = some (ac_ref09_Same, [.t 4]) := by kernel_rfl
def U_ref09_Same := (And.intro (And.intro (And.intro (And.intro (And.intro (And.intro @ac_ref09_Same.eq_1 (@mR _ _ ac_ref09_Same_0.eq_1)) (@mR _ _ ac_ref09_Same_1.eq_1)) (And.intro (@mR _ _ ac_ref09_Same_2.eq_1) (@mU _ _ ac_ref09_Same_3.eq_1))) (And.intro (And.intro (And.intro (@mU _ _ ac_ref09_Same_4.eq_1) (@mU _ _ ac_ref09_Same_5.eq_1)) (@mR _ _ ac_ref09_Same_6.eq_1)) (And.intro (@mR _ _ ac_ref09_Same_7.eq_1) (@mU _ _ ac_ref09_Same_8.eq_1)))) (And.intro (And.intro (And.intro (And.intro (@mU _ _ ac_ref09_Same_9.eq_1) (@mD _ _ _ ac_ref09_Same_10.eq_1)) (@mR _ _ ac_ref09_Same_11.eq_1)) (And.intro (@mU _ _ ac_ref09_Same_12.eq_1) (@mU _ _ ac_ref09_Same_13.eq_1))) (And.intro (And.intro (@mU _ _ ac_ref09_Same_14.eq_1) (@mU _ _ ac_ref09_Same_15.eq_1)) (And.intro (@mR _ _ ac_ref09_Same_16.eq_1) (@mU _ _ ac_ref09_Same_17.eq_1))))) (And.intro (And.intro (And.intro (And.intro (And.intro (@mU _ _ ac_ref09_Same_18.eq_1) (@mU _ _ ac_ref09_Same_19.eq_1)) (@mU _ _ ac_ref09_Same_20.eq_1)) (And.intro (@mU _ _ ac_ref09_Same_21.eq_1) (@mR _ _ ac_ref09_Same_22.eq_1))) (And.intro (And.intro (@mU _ _ ac_ref09_Same_23.eq_1) (@mU _ _ ac_ref09_Same_24.eq_1)) (And.intro (@mU _ _ ac_ref09_Same_25.eq_1) (@mU _ _ ac_ref09_Same_26.eq_1)))) (And.intro (And.intro (And.intro (And.intro @l_ref09_Same_0.eq_1 @l_ref09_Same_1.eq_1) @l_ref09_Same_2.eq_1) (And.intro @l_ref09_Same_6.eq_1 @l_ref09_Same_7.eq_1)) (And.intro (And.intro @l_ref09_Same_10.eq_1 @l_ref09_Same_11.eq_1) (And.intro @l_ref09_Same_16.eq_1 @l_ref09_Same_22.eq_1)))))

/- scoria/leaf.Inner -/
def l_leaf_Inner_0 : List AOp := [⟨(some 2), .mv (.k (.str [])), none, none, [], none⟩,
  ⟨(some 3), .mv (.k (.int .i64 0)), none, none, [], none⟩]
def ac_leaf_Inner_0 : AC := .reg l_leaf_Inner_0
def l_leaf_Inner_1 : List AOp := [⟨(some 4), .mv (.t 0), none, none, [], none⟩,
  ⟨(some 5), .call false 35 [(.t 4)], none, none, [], none⟩,
  ⟨(some 6), .un .not (.t 5), none, none, [], none⟩]
def ac_leaf_Inner_1 : AC := .reg l_leaf_Inner_1
def l_leaf_Inner_2 : List AOp := [⟨(some 2), .mv (.k (.str [])), none, none, [], none⟩,
  ⟨(some 3), .mv (.k (.int .i64 1)), none, none, [], none⟩]
def ac_leaf_Inner_2 : AC := .reg l_leaf_Inner_2
def ac_leaf_Inner_3 : AC := .seq ac_leaf_Inner_2 .ret
def ac_leaf_Inner_4 : AC := .cond (.t 6) ac_leaf_Inner_3 .skip
def ac_leaf_Inner_5 : AC := .seq ac_leaf_Inner_1 ac_leaf_Inner_4
def l_leaf_Inner_6 : List AOp := [⟨(some 7), .mv (.t 0), none, none, [], none⟩,
  ⟨(some 8), .call false 34 [], none, none, [], none⟩,
  ⟨(some 9), .call false 37 [(.t 7), (.t 8), (.k (.fn (.func 38) [] []))], none, none, [], none⟩,
  ⟨(some 10), .ext 0 (.t 9), none, none, [], none⟩,
  ⟨(some 11), .ext 1 (.t 9), none, none, [], none⟩,
  ⟨(some 2), .mv (.t 10), none, none, [], none⟩,
  ⟨(some 3), .mv (.t 11), none, none, [], none⟩]
def ac_leaf_Inner_6 : AC := .reg l_leaf_Inner_6
def ac_leaf_Inner_7 : AC := .seq ac_leaf_Inner_6 .ret
def ac_leaf_Inner_8 : AC := .seq ac_leaf_Inner_5 ac_leaf_Inner_7
def ac_leaf_Inner_9 : AC := .seq ac_leaf_Inner_0 ac_leaf_Inner_8
def ac_leaf_Inner : AC := ac_leaf_Inner_9
theorem comp_leaf_Inner : compF Try.prog [] (drawR Try.prog [] Try.f20.ntmps) [] 1 Try.f20 = some (ac_leaf_Inner, [.t 2, .t 3]) := by kernel_rfl
def U_leaf_Inner := (And.intro (And.intro (And.intro (And.intro @ac_leaf_Inner.eq_1 (@mR _ _ ac_leaf_Inner_0.eq_1)) (And.intro (@mR _ _ ac_leaf_Inner_1.eq_1) (@mR _ _ ac_leaf_Inner_2.eq_1))) (And.intro (And.intro (@mU _ _ ac_leaf_Inner_3.eq_1) (@mU _ _ ac_leaf_Inner_4.eq_1)) (And.intro (@mU _ _ ac_leaf_Inner_5.eq_1) (@mR _ _ ac_leaf_Inner_6.eq_1)))) (And.intro (And.intro (And.intro (@mU _ _ ac_leaf_Inner_7.eq_1) (@mU _ _ ac_leaf_Inner_8.eq_1)) (And.intro (@mU _ _ ac_leaf_Inner_9.eq_1) @l_leaf_Inner_0.eq_1)) (And.intro (And.intro @l_leaf_Inner_1.eq_1 @l_leaf_Inner_2.eq_1) @l_leaf_Inner_6.eq_1)))

/- scoria/scoriaref09.Inner -/
def l_ref09_Inner_0 : List AOp := [⟨(some 2), .mv (.k (.str [])), none, none, [], none⟩,
  ⟨(some 3), .mv (.k (.int .i64 0)), none, none, [], none⟩]
def ac_ref09_Inner_0 : AC := .reg l_ref09_Inner_0
def l_ref09_Inner_1 : List AOp := [⟨(some 6), .mv (.t 0), none, none, [], none⟩,
  ⟨(some 7), .call false 39 [(.t 6)], none, none, [], none⟩,
  ⟨(some 8), .un .not (.t 7), none, none, [], none⟩]
def ac_ref09_Inner_1 : AC := .reg l_ref09_Inner_1
def l_ref09_Inner_2 : List AOp := [⟨(some 2), .mv (.k (.str [])), none, none, [], none⟩,
  ⟨(some 3), .mv (.k (.int .i64 1)), none, none, [], none⟩]
def ac_ref09_Inner_2 : AC := .reg l_ref09_Inner_2
def ac_ref09_Inner_3 : AC := .seq ac_ref09_Inner_2 .ret
def ac_ref09_Inner_4 : AC := .cond (.t 8) ac_ref09_Inner_3 .skip
def ac_ref09_Inner_5 : AC := .seq ac_ref09_Inner_1 ac_ref09_Inner_4
def l_ref09_Inner_6 : List AOp := [⟨(some 9), .mv (.t 0), none, none, [], none⟩,
  ⟨(some 10), .len (.t 9), none, none, [], none⟩,
  ⟨(some 11), .call false 29 [(.t 10), (.k (.int .i64 1))], none, none, [], none⟩,
  ⟨(some 4), .mv (.t 11), none, none, [], none⟩]
def ac_ref09_Inner_6 : AC := .reg l_ref09_Inner_6
def l_ref09_Inner_7 : List AOp := [⟨(some 5), .mv (.k (.int .i64 0)), none, none, [], none⟩]
def ac_ref09_Inner_7 : AC := .reg l_ref09_Inner_7
def l_ref09_Inner_8 : List AOp := [⟨(some 12), .mv (.t 5), none, none, [], none⟩,
  ⟨(some 13), .mv (.t 0), none, none, [], none⟩,
  ⟨(some 14), .len (.t 13), none, none, [], none⟩,
  ⟨(some 15), .bin .lss (.t 12) (.t 14), none, none, [], none⟩]
def ac_ref09_Inner_8 : AC := .reg l_ref09_Inner_8
def ac_ref09_Inner_9 : AC := .cond (.t 15) .skip (.exit 0)
def ac_ref09_Inner_10 : AC := .seq ac_ref09_Inner_8 ac_ref09_Inner_9
def l_ref09_Inner_11 : List AOp := [⟨(some 18), .mv (.t 4), none, none, [], none⟩,
  ⟨(some 19), .mv (.t 0), none, none, [], none⟩,
  ⟨(some 20), .mv (.t 5), none, none, [], none⟩,
  ⟨(some 21), .isl 2 (.t 19) (.t 20), none, none, [], none⟩,
  ⟨(some 22), .faddr 0 (.t 21), none, none, [], none⟩,
  ⟨(some 23), .load none (.t 22), none, none, [], none⟩,
  ⟨(some 24), .call false 29 [(.t 23), (.k (.int .i64 3))], none, none, [], none⟩,
  ⟨(some 25), .bin .add (.t 18) (.t 24), none, none, [], none⟩,
  ⟨(some 26), .mv (.t 0), none, none, [], none⟩,
  ⟨(some 27), .mv (.t 5), none, none, [], none⟩,
  ⟨(some 28), .isl 2 (.t 26) (.t 27), none, none, [], none⟩,
  ⟨(some 29), .faddr 1 (.t 28), none, none, [], none⟩,
  ⟨(some 30), .load none (.t 29), none, none, [], none⟩,
  ⟨(some 31), .call false 29 [(.t 30), (.k (.int .i64 2))], none, none, [], none⟩,
  ⟨(some 32), .bin .add (.t 25) (.t 31), none, none, [], none⟩,
  ⟨(some 4), .mv (.t 32), none, none, [], none⟩]
def ac_ref09_Inner_11 : AC := .dreg 0 l_ref09_Inner_11
def ac_ref09_Inner_12 : AC := .block 1 ac_ref09_Inner_11
def l_ref09_Inner_13 : List AOp := [⟨(some 16), .mv (.t 5), none, none, [], none⟩,
  ⟨(some 17), .bin .add (.t 16) (.k (.int .i64 1)), none, none, [], none⟩,
  ⟨(some 5), .mv (.t 17), none, none, [], none⟩]
def ac_ref09_Inner_13 : AC := .reg l_ref09_Inner_13
def ac_ref09_Inner_14 : AC := .seq ac_ref09_Inner_12 ac_ref09_Inner_13
def ac_ref09_Inner_15 : AC := .seq ac_ref09_Inner_10 ac_ref09_Inner_14
def ac_ref09_Inner_16 : AC := .loop [0, 4, 5] 0 ac_ref09_Inner_15
def ac_ref09_Inner_17 : AC := .block 0 ac_ref09_Inner_16
def ac_ref09_Inner_18 : AC := .seq ac_ref09_Inner_7 ac_ref09_Inner_17
def l_ref09_Inner_19 : List AOp := [⟨(some 33), .mv (.t 4), none, none, [], none⟩,
  ⟨(some 2), .mv (.t 33), none, none, [], none⟩,
  ⟨(some 3), .mv (.k (.int .i64 0)), none, none, [], none⟩]
def ac_ref09_Inner_19 : AC := .reg l_ref09_Inner_19
def ac_ref09_Inner_20 : AC := .seq ac_ref09_Inner_19 .ret
def ac_ref09_Inner_21 : AC := .seq ac_ref09_Inner_18 ac_ref09_Inner_20
def ac_ref09_Inner_22 : AC := .seq ac_ref09_Inner_6 ac_ref09_Inner_21
def ac_ref09_Inner_23 : AC := .seq ac_ref09_Inner_5 ac_ref09_Inner_22
def ac_ref09_Inner_24 : AC := .seq ac_ref09_Inner_0 ac_ref09_Inner_23
def ac_ref09_Inner : AC := ac_ref09_Inner_24
theorem comp_ref09_Inner : compF Try.prog [] (drawR Try.prog [] Try.f21.ntmps) [([0, 4, 5], 0)] 1 Try.f21 = some (ac_ref09_Inner, [.t 2, .t 3]) := by kernel_rfl
def U_ref09_Inner := (And.intro (And.intro (And.intro (And.intro (And.intro (And.intro @ac_ref09_Inner.eq_1 (@mR _ _ ac_ref09_Inner_0.eq_1)) (@mR _ _ ac_ref09_Inner_1.eq_1)) (And.intro (@mR _ _ ac_ref09_Inner_2.eq_1) (@mU _ _ ac_ref09_Inner_3.eq_1))) (And.intro (And.intro (@mU _ _ ac_ref09_Inner_4.eq_1) (@mU _ _ ac_ref09_Inner_5.eq_1)) (And.intro (@mR _ _ ac_ref09_Inner_6.eq_1) (@mR _ _ ac_ref09_Inner_7.eq_1)))) (And.intro (And.intro (And.intro (And.intro (@mR _ _ ac_ref09_Inner_8.eq_1) (@mU _ _ ac_ref09_Inner_9.eq_1)) (@mU _ _ ac_ref09_Inner_10.eq_1)) (And.intro (@mD _ _ _ ac_ref09_Inner_11.eq_1) (@mU _ _ ac_ref09_Inner_12.eq_1))) (And.intro (And.intro (@mR _ _ ac_ref09_Inner_13.eq_1) (@mU _ _ ac_ref09_Inner_14.eq_1)) (And.intro (@mU _ _ ac_ref09_Inner_15.eq_1) (@mU _ _ ac_ref09_Inner_16.eq_1))))) (And.intro (And.intro (And.intro (And.intro (And.intro (@mU _ _ ac_ref09_Inner_17.eq_1) (@mU _ _ ac_ref09_Inner_18.eq_1)) (@mR _ _ ac_ref09_Inner_19.eq_1)) (And.intro (@mU _ _ ac_ref09_Inner_20.eq_1) (@mU _ _ ac_ref09_Inner_21.eq_1))) (And.intro (And.intro (@mU _ _ ac_ref09_Inner_22.eq_1) (@mU _ _ ac_ref09_Inner_23.eq_1)) (And.intro (@mU _ _ ac_ref09_Inner_24.eq_1) @l_ref09_Inner_0.eq_1))) (And.intro (And.intro (And.intro @l_ref09_Inner_1.eq_1 @l_ref09_Inner_2.eq_1) (And.intro @l_ref09_Inner_6.eq_1 @l_ref09_Inner_7.eq_1)) (And.intro (And.intro @l_ref09_Inner_8.eq_1 @l_ref09_Inner_11.eq_1) (And.intro @l_ref09_Inner_13.eq_1 @l_ref09_Inner_19.eq_1)))))

/- scoria/scoriaref09.Under -/
def l_ref09_Under_0 : List AOp := [⟨(some 4), .mv (.k (.int .i64 0)), none, none, [], none⟩]
def ac_ref09_Under_0 : AC := .reg l_ref09_Under_0
def l_ref09_Under_1 : List AOp := [⟨(some 5), .mv (.k (.int .i64 0)), none, none, [], none⟩]
def ac_ref09_Under_1 : AC := .reg l_ref09_Under_1
def l_ref09_Under_2 : List AOp := [⟨(some 6), .mv (.k (.int .i64 0)), none, none, [], none⟩]
def ac_ref09_Under_2 : AC := .reg l_ref09_Under_2
def l_ref09_Under_3 : List AOp := [⟨(some 7), .mv (.t 6), none, none, [], none⟩,
  ⟨(some 8), .mv (.t 0), none, none, [], none⟩,
  ⟨(some 9), .len (.t 8), none, none, [], none⟩,
  ⟨(some 10), .bin .lss (.t 7) (.t 9), none, none, [], none⟩]
def ac_ref09_Under_3 : AC := .reg l_ref09_Under_3
def ac_ref09_Under_4 : AC := .cond (.t 10) .skip (.exit 0)
def ac_ref09_Under_5 : AC := .seq ac_ref09_Under_3 ac_ref09_Under_4
def l_ref09_Under_6 : List AOp := [⟨(some 13), .mv (.t 0), none, none, [], none⟩,
  ⟨(some 14), .mv (.t 6), none, none, [], none⟩,
  ⟨(some 15), .isl 2 (.t 13) (.t 14), none, none, [], none⟩,
  ⟨(some 16), .faddr 0 (.t 15), none, none, [], none⟩,
  ⟨(some 17), .load none (.t 16), none, none, [], none⟩,
  ⟨(some 18), .mv (.t 1), none, none, [], none⟩,
  ⟨(some 19), .bin .leq (.t 17) (.t 18), none, none, [], none⟩]
def ac_ref09_Under_6 : AC := .reg l_ref09_Under_6
def l_ref09_Under_7 : List AOp := [⟨(some 20), .mv (.t 6), none, none, [], none⟩,
  ⟨(some 5), .mv (.t 20), none, none, [], none⟩]
def ac_ref09_Under_7 : AC := .reg l_ref09_Under_7
def ac_ref09_Under_8 : AC := .cond (.t 19) ac_ref09_Under_7 .skip
def ac_ref09_Under_9 : AC := .seq ac_ref09_Under_6 ac_ref09_Under_8
def ac_ref09_Under_10 : AC := .block 1 ac_ref09_Under_9
def l_ref09_Under_11 : List AOp := [⟨(some 11), .mv (.t 6), none, none, [], none⟩,
  ⟨(some 12), .bin .add (.t 11) (.k (.int .i64 1)), none, none, [], none⟩,
  ⟨(some 6), .mv (.t 12), none, none, [], none⟩]
def ac_ref09_Under_11 : AC := .reg l_ref09_Under_11
def ac_ref09_Under_12 : AC := .seq ac_ref09_Under_10 ac_ref09_Under_11
def ac_ref09_Under_13 : AC := .seq ac_ref09_Under_5 ac_ref09_Under_12
def ac_ref09_Under_14 : AC := .loop [0, 1, 5, 6] 0 ac_ref09_Under_13
def ac_ref09_Under_15 : AC := .block 0 ac_ref09_Under_14
def ac_ref09_Under_16 : AC := .seq ac_ref09_Under_2 ac_ref09_Under_15
def l_ref09_Under_17 : List AOp := [⟨(some 21), .mv (.t 5), none, none, [], none⟩,
  ⟨(some 4), .mv (.t 21), none, none, [], none⟩]
def ac_ref09_Under_17 : AC := .reg l_ref09_Under_17
def ac_ref09_Under_18 : AC := .seq ac_ref09_Under_17 .ret
def ac_ref09_Under_19 : AC := .seq ac_ref09_Under_16 ac_ref09_Under_18
def ac_ref09_Under_20 : AC := .seq ac_ref09_Under_1 ac_ref09_Under_19
def ac_ref09_Under_21 : AC := .seq ac_ref09_Under_0 ac_ref09_Under_20
def ac_ref09_Under : AC := ac_ref09_Under_21
theorem comp_ref09_Under : compF Try.prog [] (drawR Try.prog [] Try.f23.ntmps) [([0, 1, 5, 6], 0)] 2 Try.f23 = some (ac_ref09_Under, [.t 4]) := by kernel_rfl
def U_ref09_Under := (And.intro (And.intro (And.intro (And.intro (And.intro @ac_ref09_Under.eq_1 (@mR _ _ ac_ref09_Under_0.eq_1)) (And.intro (@mR _ _ ac_ref09_Under_1.eq_1) (@mR _ _ ac_ref09_Under_2.eq_1))) (And.intro (And.intro (@mR _ _ ac_ref09_Under_3.eq_1) (@mU _ _ ac_ref09_Under_4.eq_1)) (And.intro (@mU _ _ ac_ref09_Under_5.eq_1) (@mR _ _ ac_ref09_Under_6.eq_1)))) (And.intro (And.intro (And.intro (@mR _ _ ac_ref09_Under_7.eq_1) (@mU _ _ ac_ref09_Under_8.eq_1)) (And.intro (@mU _ _ ac_ref09_Under_9.eq_1) (@mU _ _ ac_ref09_Under_10.eq_1))) (And.intro (And.intro (@mR _ _ ac_ref09_Under_11.eq_1) (@mU _ _ ac_ref09_Under_12.eq_1)) (And.intro (@mU _ _ ac_ref09_Under_13.eq_1) (@mU _ _ ac_ref09_Under_14.eq_1))))) (And.intro (And.intro (And.intro (And.intro (@mU _ _ ac_ref09_Under_15.eq_1) (@mU _ _ ac_ref09_Under_16.eq_1)) (And.intro (@mR _ _ ac_ref09_Under_17.eq_1) (@mU _ _ ac_ref09_Under_18.eq_1))) (And.intro (And.intro (@mU _ _ ac_ref09_Under_19.eq_1) (@mU _ _ ac_ref09_Under_20.eq_1)) (And.intro (@mU _ _ ac_ref09_Under_21.eq_1) @l_ref09_Under_0.eq_1))) (And.intro (And.intro (And.intro @l_ref09_Under_1.eq_1 @l_ref09_Under_2.eq_1) (And.intro @l_ref09_Under_3.eq_1 @l_ref09_Under_6.eq_1)) (And.intro (And.intro @l_ref09_Under_7.eq_1 @l_ref09_Under_11.eq_1) @l_ref09_Under_17.eq_1))))

/- scoria/leaf.extents -/
def l_leaf_extents_0 : List AOp := [⟨(some 2), .mv (.k (.bool false)), none, none, [], none⟩]
def ac_leaf_extents_0 : AC := .reg l_leaf_extents_0
def l_leaf_extents_1 : List AOp := [⟨(some 3), .mv (.t 0), none, none, [], none⟩,
  ⟨(some 4), .len (.t 3), none, none, [], none⟩,
  ⟨(some 5), .bin .geq (.t 4) (.k (.int .i64 1)), none, none, [], none⟩,
  ⟨(some 6), .mv (.t 5), none, none, [], none⟩,
  ⟨(some 7), .mv (.t 0), (some (6, true)), none, [], none⟩,
  ⟨(some 8), .len (.t 7), (some (6, true)), none, [], none⟩,
  ⟨(some 9), .bin .leq (.t 8) (.k (.int .i64 8)), (some (6, true)), none, [], none⟩,
  ⟨(some 10), .pick (.t 6) (.t 9) (.k (.bool false)), none, none, [], none⟩,
  ⟨(some 11), .mv (.t 10), none, none, [], none⟩,
  ⟨(some 12), .mv (.t 0), (some (11, true)), none, [], none⟩,
  ⟨(some 13), .call false 41 [(.t 12)], (some (11, true)), none, [], none⟩,
  ⟨(some 14), .pick (.t 11) (.t 13) (.k (.bool false)), none, none, [], none⟩,
  ⟨(some 15), .mv (.t 14), none, none, [], none⟩,
  ⟨(some 16), .mv (.t 0), (some (15, true)), none, [], none⟩,
  ⟨(some 17), .call false 42 [(.t 16), (.k (.fn (.func 43) [] []))], (some (15, true)), none, [], none⟩,
  ⟨(some 18), .un .not (.t 17), (some (15, true)), none, [], none⟩,
  ⟨(some 19), .pick (.t 15) (.t 18) (.k (.bool false)), none, none, [], none⟩,
  ⟨(some 2), .mv (.t 19), none, none, [], none⟩]
def ac_leaf_extents_1 : AC := .reg l_leaf_extents_1
def ac_leaf_extents_2 : AC := .seq ac_leaf_extents_1 .ret
def ac_leaf_extents_3 : AC := .seq ac_leaf_extents_0 ac_leaf_extents_2
def ac_leaf_extents : AC := ac_leaf_extents_3
theorem comp_leaf_extents : compF Try.prog [] (drawR Try.prog [] Try.f24.ntmps) [] 1 Try.f24 = some (ac_leaf_extents, [.t 2]) := by kernel_rfl
def U_leaf_extents := (And.intro (And.intro (And.intro @ac_leaf_extents.eq_1 (@mR _ _ ac_leaf_extents_0.eq_1)) (And.intro (@mR _ _ ac_leaf_extents_1.eq_1) (@mU _ _ ac_leaf_extents_2.eq_1))) (And.intro (And.intro (@mU _ _ ac_leaf_extents_3.eq_1) @l_leaf_extents_0.eq_1) @l_leaf_extents_1.eq_1))

/- scoria/leaf.write[scoria/api.Ext] -/
def l_leaf_write_api_Ext_0 : List AOp := [⟨(some 6), .mv (.k (.str [])), none, none, [], none⟩,
  ⟨(some 7), .mv (.k (.int .i64 0)), none, none, [], none⟩]
def ac_leaf_write_api_Ext_0 : AC := .reg l_leaf_write_api_Ext_0
def l_leaf_write_api_Ext_1 : List AOp := [⟨(some 13), .mv (.t 0), none, none, [], none⟩,
  ⟨(some 14), .len (.t 13), none, none, [], none⟩,
  ⟨(some 15), .conv .u8 (.t 14), none, none, [], none⟩,
  ⟨(some 16), .blds false [(.int .u8 0)] 1 [(0, (.t 15))], none, none, [], none⟩,
  ⟨(some 17), .b2s (.t 16), none, none, [], none⟩,
  ⟨(some 8), .mv (.t 17), none, none, [], none⟩]
def ac_leaf_write_api_Ext_1 : AC := .reg l_leaf_write_api_Ext_1
def l_leaf_write_api_Ext_2 : List AOp := [⟨(some 18), .mv (.t 0), none, none, [], none⟩,
  ⟨(some 19), .len (.t 18), none, none, [], none⟩,
  ⟨(some 20), .mv (.k (.int .i64 0)), none, none, [], none⟩]
def ac_leaf_write_api_Ext_2 : AC := .reg l_leaf_write_api_Ext_2
def l_leaf_write_api_Ext_3 : List AOp := [⟨(some 21), .bin .lss (.t 20) (.t 19), none, none, [], none⟩]
def ac_leaf_write_api_Ext_3 : AC := .reg l_leaf_write_api_Ext_3
def ac_leaf_write_api_Ext_4 : AC := .cond (.t 21) .skip (.exit 0)
def l_leaf_write_api_Ext_5 : List AOp := [⟨(some 22), .isl 4 (.t 18) (.t 20), none, none, [], none⟩,
  ⟨(some 23), .load (some 4) (.t 22), none, none, [], none⟩,
  ⟨(some 10), .alloc [(.int .i64 0), (.int .i64 0), (.int .i64 0), (.int .i64 0)], none, none, [], none⟩,
  ⟨none, .store 4 (.t 10) (.t 23), none, none, [], none⟩]
def ac_leaf_write_api_Ext_5 : AC := .reg l_leaf_write_api_Ext_5
def l_leaf_write_api_Ext_6 : List AOp := [⟨(some 25), .mv (.t 2), none, none, [], none⟩,
  ⟨(some 26), .load (some 4) (.t 10), none, none, [], none⟩,
  ⟨(some 27), .callv (.t 25) [(.t 26)], none, none, [], none⟩,
  ⟨(some 28), .mv (.t 1), none, none, [], none⟩,
  ⟨(some 29), .call false 44 [(.t 27), (.t 28)], none, none, [], none⟩,
  ⟨(some 24), .mv (.t 29), none, none, [], none⟩,
  ⟨(some 30), .ext 0 (.t 24), none, none, [], none⟩,
  ⟨(some 31), .ext 1 (.t 24), none, none, [], none⟩,
  ⟨(some 11), .mv (.t 30), none, none, [], none⟩,
  ⟨(some 12), .mv (.t 31), none, none, [], none⟩]
def ac_leaf_write_api_Ext_6 : AC := .reg l_leaf_write_api_Ext_6
def l_leaf_write_api_Ext_7 : List AOp := [⟨(some 32), .mv (.t 12), none, none, [], none⟩,
  ⟨(some 33), .bin .neq (.t 32) (.k (.int .i64 0)), none, none, [], none⟩]
def ac_leaf_write_api_Ext_7 : AC := .reg l_leaf_write_api_Ext_7
def l_leaf_write_api_Ext_8 : List AOp := [⟨(some 34), .mv (.t 12), none, none, [], none⟩,
  ⟨(some 6), .mv (.k (.str [])), none, none, [], none⟩,
  ⟨(some 7), .mv (.t 34), none, none, [], none⟩]
def ac_leaf_write_api_Ext_8 : AC := .reg l_leaf_write_api_Ext_8
def ac_leaf_write_api_Ext_9 : AC := .seq ac_leaf_write_api_Ext_8 .ret
def ac_leaf_write_api_Ext_10 : AC := .cond (.t 33) ac_leaf_write_api_Ext_9 .skip
def ac_leaf_write_api_Ext_11 : AC := .seq ac_leaf_write_api_Ext_7 ac_leaf_write_api_Ext_10
def l_leaf_write_api_Ext_12 : List AOp := [⟨(some 35), .mv (.t 8), none, none, [], none⟩,
  ⟨(some 36), .mv (.t 11), none, none, [], none⟩,
  ⟨(some 37), .bin .add (.t 35) (.t 36), none, none, [], none⟩,
  ⟨(some 8), .mv (.t 37), none, none, [], none⟩]
def ac_leaf_write_api_Ext_12 : AC := .reg l_leaf_write_api_Ext_12
def ac_leaf_write_api_Ext_13 : AC := .seq ac_leaf_write_api_Ext_11 ac_leaf_write_api_Ext_12
def ac_leaf_write_api_Ext_14 : AC := .seq ac_leaf_write_api_Ext_6 ac_leaf_write_api_Ext_13
def ac_leaf_write_api_Ext_15 : AC := .seq ac_leaf_write_api_Ext_5 ac_leaf_write_api_Ext_14
def ac_leaf_write_api_Ext_16 : AC := .block 1 ac_leaf_write_api_Ext_15
def l_leaf_write_api_Ext_17 : List AOp := [⟨(some 38), .bin .add (.t 20) (.k (.int .i64 1)), none, none, [], none⟩,
  ⟨(some 20), .mv (.t 38), none, none, [], none⟩]
def ac_leaf_write_api_Ext_17 : AC := .reg l_leaf_write_api_Ext_17
def ac_leaf_write_api_Ext_18 : AC := .seq ac_leaf_write_api_Ext_16 ac_leaf_write_api_Ext_17
def ac_leaf_write_api_Ext_19 : AC := .seq ac_leaf_write_api_Ext_4 ac_leaf_write_api_Ext_18
def ac_leaf_write_api_Ext_20 : AC := .seq ac_leaf_write_api_Ext_3 ac_leaf_write_api_Ext_19
def ac_leaf_write_api_Ext_21 : AC := .loop [1, 2, 8, 18, 19, 20] 0 ac_leaf_write_api_Ext_20
def ac_leaf_write_api_Ext_22 : AC := .block 0 ac_leaf_write_api_Ext_21
def ac_leaf_write_api_Ext_23 : AC := .seq ac_leaf_write_api_Ext_2 ac_leaf_write_api_Ext_22
def l_leaf_write_api_Ext_24 : List AOp := [⟨(some 39), .mv (.t 8), none, none, [], none⟩,
  ⟨(some 6), .mv (.t 39), none, none, [], none⟩,
  ⟨(some 7), .mv (.k (.int .i64 0)), none, none, [], none⟩]
def ac_leaf_write_api_Ext_24 : AC := .reg l_leaf_write_api_Ext_24
def ac_leaf_write_api_Ext_25 : AC := .seq ac_leaf_write_api_Ext_24 .ret
def ac_leaf_write_api_Ext_26 : AC := .seq ac_leaf_write_api_Ext_23 ac_leaf_write_api_Ext_25
def ac_leaf_write_api_Ext_27 : AC := .seq ac_leaf_write_api_Ext_1 ac_leaf_write_api_Ext_26
def ac_leaf_write_api_Ext_28 : AC := .seq ac_leaf_write_api_Ext_0 ac_leaf_write_api_Ext_27
def ac_leaf_write_api_Ext : AC := ac_leaf_write_api_Ext_28
theorem comp_leaf_write_api_Ext : compF Try.prog [] (drawR Try.prog [] Try.f25.ntmps) [([1, 2, 8, 18, 19, 20], 0)] 3 Try.f25 = some (ac_leaf_write_api_Ext, [.t 6, .t 7]) := by kernel_rfl
def U_leaf_write_api_Ext := (And.intro (And.intro (And.intro (And.intro (And.intro (And.intro @ac_leaf_write_api_Ext.eq_1 (@mR _ _ ac_leaf_write_api_Ext_0.eq_1)) (@mR _ _ ac_leaf_write_api_Ext_1.eq_1)) (And.intro (And.intro (@mR _ _ ac_leaf_write_api_Ext_2.eq_1) (@mR _ _ ac_leaf_write_api_Ext_3.eq_1)) (@mU _ _ ac_leaf_write_api_Ext_4.eq_1))) (And.intro (And.intro (And.intro (@mR _ _ ac_leaf_write_api_Ext_5.eq_1) (@mR _ _ ac_leaf_write_api_Ext_6.eq_1)) (@mR _ _ ac_leaf_write_api_Ext_7.eq_1)) (And.intro (@mR _ _ ac_leaf_write_api_Ext_8.eq_1) (@mU _ _ ac_leaf_write_api_Ext_9.eq_1)))) (And.intro (And.intro (And.intro (And.intro (@mU _ _ ac_leaf_write_api_Ext_10.eq_1) (@mU _ _ ac_leaf_write_api_Ext_11.eq_1)) (@mR _ _ ac_leaf_write_api_Ext_12.eq_1)) (And.intro (@mU _ _ ac_leaf_write_api_Ext_13.eq_1) (@mU _ _ ac_leaf_write_api_Ext_14.eq_1))) (And.intro (And.intro (And.intro (@mU _ _ ac_leaf_write_api_Ext_15.eq_1) (@mU _ _ ac_leaf_write_api_Ext_16.eq_1)) (@mR _ _ ac_leaf_write_api_Ext_17.eq_1)) (And.intro (@mU _ _ ac_leaf_write_api_Ext_18.eq_1) (@mU _ _ ac_leaf_write_api_Ext_19.eq_1))))) (And.intro (And.intro (And.intro (And.intro (And.intro (@mU _ _ ac_leaf_write_api_Ext_20.eq_1) (@mU _ _ ac_leaf_write_api_Ext_21.eq_1)) (@mU _ _ ac_leaf_write_api_Ext_22.eq_1)) (And.intro (@mU _ _ ac_leaf_write_api_Ext_23.eq_1) (@mR _ _ ac_leaf_write_api_Ext_24.eq_1))) (And.intro (And.intro (And.intro (@mU _ _ ac_leaf_write_api_Ext_25.eq_1) (@mU _ _ ac_leaf_write_api_Ext_26.eq_1)) (@mU _ _ ac_leaf_write_api_Ext_27.eq_1)) (And.intro (@mU _ _ ac_leaf_write_api_Ext_28.eq_1) @l_leaf_write_api_Ext_0.eq_1))) (And.intro (And.intro (And.intro (And.intro @l_leaf_write_api_Ext_1.eq_1 @l_leaf_write_api_Ext_2.eq_1) @l_leaf_write_api_Ext_3.eq_1) (And.intro @l_leaf_write_api_Ext_5.eq_1 @l_leaf_write_api_Ext_6.eq_1)) (And.intro (And.intro (And.intro @l_leaf_write_api_Ext_7.eq_1 @l_leaf_write_api_Ext_8.eq_1) @l_leaf_write_api_Ext_12.eq_1) (And.intro @l_leaf_write_api_Ext_17.eq_1 @l_leaf_write_api_Ext_24.eq_1)))))

/- scoria/leaf.extWidths -/
def l_leaf_extWidths_0 : List AOp := [⟨(some 0), .mv (.k (.slc [])), none, none, [], none⟩]
def ac_leaf_extWidths_0 : AC := .reg l_leaf_extWidths_0
def l_leaf_extWidths_1 : List AOp := [⟨(some 1), .blds false [(.int .i64 0)] 4 [(0, (.k (.int .i64 3))), (1, (.k (.int .i64 4))), (2, (.k (.int .i64 1))), (3, (.k (.int .i64 2)))], none, none, [], none⟩,
  ⟨(some 0), .mv (.t 1), none, none, [], none⟩]
def ac_leaf_extWidths_1 : AC := .reg l_leaf_extWidths_1
def ac_leaf_extWidths_2 : AC := .seq ac_leaf_extWidths_1 .ret
def ac_leaf_extWidths_3 : AC := .seq ac_leaf_extWidths_0 ac_leaf_extWidths_2
def ac_leaf_extWidths : AC := ac_leaf_extWidths_3
theorem comp_leaf_extWidths : compF Try.prog [] (drawR Try.prog [] Try.f26.ntmps) [] 0 Try.f26 = some (ac_leaf_extWidths, [.t 0]) := by kernel_rfl
def U_leaf_extWidths := (And.intro (And.intro (And.intro @ac_leaf_extWidths.eq_1 (@mR _ _ ac_leaf_extWidths_0.eq_1)) (And.intro (@mR _ _ ac_leaf_extWidths_1.eq_1) (@mU _ _ ac_leaf_extWidths_2.eq_1))) (And.intro (And.intro (@mU _ _ ac_leaf_extWidths_3.eq_1) @l_leaf_extWidths_0.eq_1) @l_leaf_extWidths_1.eq_1))

/- scoria/leaf.Leaf$1 -/
def l_leaf_Leaf_c1_0 : List AOp := [⟨(some 1), .box (.t 0), none, none, [], none⟩,
  ⟨(some 2), .mv (.k (.slc [])), none, none, [], none⟩]
def ac_leaf_Leaf_c1_0 : AC := .reg l_leaf_Leaf_c1_0
def l_leaf_Leaf_c1_1 : List AOp := [⟨(some 3), .faddr 0 (.t 1), none, none, [], none⟩,
  ⟨(some 4), .load none (.t 3), none, none, [], none⟩,
  ⟨(some 5), .conv .u64 (.t 4), none, none, [], none⟩,
  ⟨(some 6), .faddr 1 (.t 1), none, none, [], none⟩,
  ⟨(some 7), .load none (.t 6), none, none, [], none⟩,
  ⟨(some 8), .conv .u64 (.t 7), none, none, [], none⟩,
  ⟨(some 9), .faddr 2 (.t 1), none, none, [], none⟩,
  ⟨(some 10), .load none (.t 9), none, none, [], none⟩,
  ⟨(some 11), .conv .u64 (.t 10), none, none, [], none⟩,
  ⟨(some 12), .faddr 3 (.t 1), none, none, [], none⟩,
  ⟨(some 13), .load none (.t 12), none, none, [], none⟩,
  ⟨(some 14), .conv .u64 (.t 13), none, none, [], none⟩,
  ⟨(some 15), .blds false [(.int .u64 0)] 4 [(0, (.t 5)), (1, (.t 8)), (2, (.t 11)), (3, (.t 14))], none, none, [], none⟩,
  ⟨(some 2), .mv (.t 15), none, none, [], none⟩]
def ac_leaf_Leaf_c1_1 : AC := .reg l_leaf_Leaf_c1_1
def ac_leaf_Leaf_c1_2 : AC := .seq ac_leaf_Leaf_c1_1 .ret
def ac_leaf_Leaf_c1_3 : AC := .seq ac_leaf_Leaf_c1_0 ac_leaf_Leaf_c1_2
def ac_leaf_Leaf_c1 : AC := ac_leaf_Leaf_c1_3
theorem comp_leaf_Leaf_c1 : compF Try.prog [] (drawR Try.prog [] Try.f27.ntmps) [] 1 Try.f27 = some (ac_leaf_Leaf_c1, [.t 2]) := by kernel_rfl
def U_leaf_Leaf_c1 := (And.intro (And.intro (And.intro @ac_leaf_Leaf_c1.eq_1 (@mR _ _ ac_leaf_Leaf_c1_0.eq_1)) (And.intro (@mR _ _ ac_leaf_Leaf_c1_1.eq_1) (@mU _ _ ac_leaf_Leaf_c1_2.eq_1))) (And.intro (And.intro (@mU _ _ ac_leaf_Leaf_c1_3.eq_1) @l_leaf_Leaf_c1_0.eq_1) @l_leaf_Leaf_c1_1.eq_1))

/- scoria/scoriaref09.Leafy -/
def l_ref09_Leafy_0 : List AOp := [⟨(some 2), .mv (.k (.bool false)), none, none, [], none⟩]
def ac_ref09_Leafy_0 : AC := .reg l_ref09_Leafy_0
def l_ref09_Leafy_1 : List AOp := [⟨(some 3), .mv (.k (.int .i64 0)), none, none, [], none⟩]
def ac_ref09_Leafy_1 : AC := .reg l_ref09_Leafy_1
def l_ref09_Leafy_2 : List AOp := [⟨(some 4), .mv (.t 3), none, none, [], none⟩,
  ⟨(some 5), .mv (.t 0), none, none, [], none⟩,
  ⟨(some 6), .len (.t 5), none, none, [], none⟩,
  ⟨(some 7), .bin .lss (.t 4) (.t 6), none, none, [], none⟩]
def ac_ref09_Leafy_2 : AC := .reg l_ref09_Leafy_2
def ac_ref09_Leafy_3 : AC := .cond (.t 7) .skip (.exit 0)
def ac_ref09_Leafy_4 : AC := .seq ac_ref09_Leafy_2 ac_ref09_Leafy_3
def l_ref09_Leafy_5 : List AOp := [⟨(some 10), .mv (.t 0), none, none, [], none⟩,
  ⟨(some 11), .mv (.t 3), none, none, [], none⟩,
  ⟨(some 12), .isl 4 (.t 10) (.t 11), none, none, [], none⟩,
  ⟨(some 13), .faddr 3 (.t 12), none, none, [], none⟩,
  ⟨(some 14), .load none (.t 13), none, none, [], none⟩,
  ⟨(some 15), .bin .gtr (.t 14) (.k (.int .i64 2047)), none, none, [], none⟩]
def ac_ref09_Leafy_5 : AC := .reg l_ref09_Leafy_5
def l_ref09_Leafy_6 : List AOp := [⟨(some 2), .mv (.k (.bool false)), none, none, [], none⟩]
def ac_ref09_Leafy_6 : AC := .reg l_ref09_Leafy_6
def ac_ref09_Leafy_7 : AC := .seq ac_ref09_Leafy_6 .ret
def ac_ref09_Leafy_8 : AC := .cond (.t 15) ac_ref09_Leafy_7 .skip
def ac_ref09_Leafy_9 : AC := .seq ac_ref09_Leafy_5 ac_ref09_Leafy_8
def ac_ref09_Leafy_10 : AC := .block 1 ac_ref09_Leafy_9
def l_ref09_Leafy_11 : List AOp := [⟨(some 8), .mv (.t 3), none, none, [], none⟩,
  ⟨(some 9), .bin .add (.t 8) (.k (.int .i64 1)), none, none, [], none⟩,
  ⟨(some 3), .mv (.t 9), none, none, [], none⟩]
def ac_ref09_Leafy_11 : AC := .reg l_ref09_Leafy_11
def ac_ref09_Leafy_12 : AC := .seq ac_ref09_Leafy_10 ac_ref09_Leafy_11
def ac_ref09_Leafy_13 : AC := .seq ac_ref09_Leafy_4 ac_ref09_Leafy_12
def ac_ref09_Leafy_14 : AC := .loop [0, 3] 0 ac_ref09_Leafy_13
def ac_ref09_Leafy_15 : AC := .block 0 ac_ref09_Leafy_14
def ac_ref09_Leafy_16 : AC := .seq ac_ref09_Leafy_1 ac_ref09_Leafy_15
def l_ref09_Leafy_17 : List AOp := [⟨(some 16), .mv (.t 0), none, none, [], none⟩,
  ⟨(some 17), .len (.t 16), none, none, [], none⟩,
  ⟨(some 18), .bin .geq (.t 17) (.k (.int .i64 1)), none, none, [], none⟩,
  ⟨(some 19), .mv (.t 18), none, none, [], none⟩,
  ⟨(some 20), .mv (.t 0), (some (19, true)), none, [], none⟩,
  ⟨(some 21), .len (.t 20), (some (19, true)), none, [], none⟩,
  ⟨(some 22), .bin .leq (.t 21) (.k (.int .i64 8)), (some (19, true)), none, [], none⟩,
  ⟨(some 23), .pick (.t 19) (.t 22) (.k (.bool false)), none, none, [], none⟩,
  ⟨(some 24), .mv (.t 23), none, none, [], none⟩,
  ⟨(some 25), .mv (.t 0), (some (24, true)), none, [], none⟩,
  ⟨(some 26), .call false 45 [(.t 25)], (some (24, true)), none, [], none⟩,
  ⟨(some 27), .pick (.t 24) (.t 26) (.k (.bool false)), none, none, [], none⟩,
  ⟨(some 2), .mv (.t 27), none, none, [], none⟩]
def ac_ref09_Leafy_17 : AC := .reg l_ref09_Leafy_17
def ac_ref09_Leafy_18 : AC := .seq ac_ref09_Leafy_17 .ret
def ac_ref09_Leafy_19 : AC := .seq ac_ref09_Leafy_16 ac_ref09_Leafy_18
def ac_ref09_Leafy_20 : AC := .seq ac_ref09_Leafy_0 ac_ref09_Leafy_19
def ac_ref09_Leafy : AC := ac_ref09_Leafy_20
theorem comp_ref09_Leafy : compF Try.prog [] (drawR Try.prog [] Try.f28.ntmps) [([0, 3], 0)] 1 Try.f28 = some (ac_ref09_Leafy, [.t 2]) := by kernel_rfl
def U_ref09_Leafy := (And.intro (And.intro (And.intro (And.intro (And.intro @ac_ref09_Leafy.eq_1 (@mR _ _ ac_ref09_Leafy_0.eq_1)) (And.intro (@mR _ _ ac_ref09_Leafy_1.eq_1) (@mR _ _ ac_ref09_Leafy_2.eq_1))) (And.intro (And.intro (@mU _ _ ac_ref09_Leafy_3.eq_1) (@mU _ _ ac_ref09_Leafy_4.eq_1)) (And.intro (@mR _ _ ac_ref09_Leafy_5.eq_1) (@mR _ _ ac_ref09_Leafy_6.eq_1)))) (And.intro (And.intro (And.intro (@mU _ _ ac_ref09_Leafy_7.eq_1) (@mU _ _ ac_ref09_Leafy_8.eq_1)) (And.intro (@mU _ _ ac_ref09_Leafy_9.eq_1) (@mU _ _ ac_ref09_Leafy_10.eq_1))) (And.intro (And.intro (@mR _ _ ac_ref09_Leafy_11.eq_1) (@mU _ _ ac_ref09_Leafy_12.eq_1)) (@mU _ _ ac_ref09_Leafy_13.eq_1)))) (And.intro (And.intro (And.intro (And.intro (@mU _ _ ac_ref09_Leafy_14.eq_1) (@mU _ _ ac_ref09_Leafy_15.eq_1)) (And.intro (@mU _ _ ac_ref09_Leafy_16.eq_1) (@mR _ _ ac_ref09_Leafy_17.eq_1))) (And.intro (And.intro (@mU _ _ ac_ref09_Leafy_18.eq_1) (@mU _ _ ac_ref09_Leafy_19.eq_1)) (@mU _ _ ac_ref09_Leafy_20.eq_1))) (And.intro (And.intro (And.intro @l_ref09_Leafy_0.eq_1 @l_ref09_Leafy_1.eq_1) (And.intro @l_ref09_Leafy_2.eq_1 @l_ref09_Leafy_5.eq_1)) (And.intro (And.intro @l_ref09_Leafy_6.eq_1 @l_ref09_Leafy_11.eq_1) @l_ref09_Leafy_17.eq_1))))

/- scoria/scoriaref09.put -/
def l_ref09_put_0 : List AOp := [⟨(some 4), .mv (.k (.str [])), none, none, [], none⟩]
def ac_ref09_put_0 : AC := .reg l_ref09_put_0
def l_ref09_put_1 : List AOp := [⟨(some 8), .mv (.t 0), none, none, [], none⟩,
  ⟨(some 9), .conv .u64 (.t 8), none, none, [], none⟩,
  ⟨(some 10), .mv (.t 1), none, none, [], none⟩,
  ⟨(some 11), .call false 46 [(.t 9), (.t 10)], none, none, [], none⟩,
  ⟨(some 7), .mv (.t 11), none, none, [], none⟩,
  ⟨(some 12), .ext 0 (.t 7), none, none, [], none⟩,
  ⟨(some 13), .ext 1 (.t 7), none, none, [], none⟩,
  ⟨(some 5), .mv (.t 12), none, none, [], none⟩,
  ⟨(some 6), .mv (.t 13), none, none, [], none⟩]
def ac_ref09_put_1 : AC := .reg l_ref09_put_1
def l_ref09_put_2 : List AOp := [⟨(some 14), .mv (.t 5), none, none, [], none⟩,
  ⟨(some 4), .mv (.t 14), none, none, [], none⟩]
def ac_ref09_put_2 : AC := .reg l_ref09_put_2
def ac_ref09_put_3 : AC := .seq ac_ref09_put_2 .ret
def ac_ref09_put_4 : AC := .seq ac_ref09_put_1 ac_ref09_put_3
def ac_ref09_put_5 : AC := .seq ac_ref09_put_0 ac_ref09_put_4
def ac_ref09_put : AC := ac_ref09_put_5
theorem comp_ref09_put : compF Try.prog [] (drawR Try.prog [] Try.f29.ntmps) [] 2 Try.f29 = some (ac_ref09_put, [.t 4]) := by kernel_rfl
def U_ref09_put := (And.intro (And.intro (And.intro (And.intro @ac_ref09_put.eq_1 (@mR _ _ ac_ref09_put_0.eq_1)) (@mR _ _ ac_ref09_put_1.eq_1)) (And.intro (@mR _ _ ac_ref09_put_2.eq_1) (@mU _ _ ac_ref09_put_3.eq_1))) (And.intro (And.intro (And.intro (@mU _ _ ac_ref09_put_4.eq_1) (@mU _ _ ac_ref09_put_5.eq_1)) @l_ref09_put_0.eq_1) (And.intro @l_ref09_put_1.eq_1 @l_ref09_put_2.eq_1)))

/- scoria/leaf.read[scoria/api.Ext] -/
def l_leaf_read_api_Ext_0 : List AOp := [⟨(some 8), .mv (.k (.slc [])), none, none, [], none⟩,
  ⟨(some 9), .mv (.k (.int .i64 0)), none, none, [], none⟩]
def ac_leaf_read_api_Ext_0 : AC := .reg l_leaf_read_api_Ext_0
def l_leaf_read_api_Ext_1 : List AOp := [⟨(some 15), .mv (.t 0), none, none, [], none⟩,
  ⟨(some 16), .bin .eql (.t 15) (.k (.str [])), none, none, [], none⟩,
  ⟨(some 17), .mv (.t 16), none, none, [], none⟩,
  ⟨(some 18), .mv (.t 0), (some (17, false)), none, [], none⟩,
  ⟨(some 19), .idxs (.t 18) (.k (.int .i64 0)), (some (17, false)), none, [], none⟩,
  ⟨(some 20), .bin .gtr (.t 19) (.k (.int .u8 8)), (some (17, false)), none, [], none⟩,
  ⟨(some 21), .pick (.t 17) (.k (.bool true)) (.t 20), none, none, [], none⟩]
def ac_leaf_read_api_Ext_1 : AC := .reg l_leaf_read_api_Ext_1
def l_leaf_read_api_Ext_2 : List AOp := [⟨(some 8), .mv (.k (.slc [])), none, none, [], none⟩,
  ⟨(some 9), .mv (.k (.int .i64 3)), none, none, [], none⟩]
def ac_leaf_read_api_Ext_2 : AC := .reg l_leaf_read_api_Ext_2
def ac_leaf_read_api_Ext_3 : AC := .seq ac_leaf_read_api_Ext_2 .ret
def ac_leaf_read_api_Ext_4 : AC := .cond (.t 21) ac_leaf_read_api_Ext_3 .skip
def ac_leaf_read_api_Ext_5 : AC := .seq ac_leaf_read_api_Ext_1 ac_leaf_read_api_Ext_4
def l_leaf_read_api_Ext_6 : List AOp := [⟨(some 10), .nilown 4, none, none, [], none⟩]
def ac_leaf_read_api_Ext_6 : AC := .reg l_leaf_read_api_Ext_6
def l_leaf_read_api_Ext_7 : List AOp := [⟨(some 22), .mv (.t 0), none, none, [], none⟩,
  ⟨(some 23), .sstr (.t 22) (some (.k (.int .i64 1))) none, none, none, [], none⟩,
  ⟨(some 11), .mv (.t 23), none, none, [], none⟩]
def ac_leaf_read_api_Ext_7 : AC := .reg l_leaf_read_api_Ext_7
def l_leaf_read_api_Ext_8 : List AOp := [⟨(some 24), .mv (.t 0), none, none, [], none⟩,
  ⟨(some 25), .idxs (.t 24) (.k (.int .i64 0)), none, none, [], none⟩,
  ⟨(some 26), .mv (.k (.int .u8 0)), none, none, [], none⟩]
def ac_leaf_read_api_Ext_8 : AC := .reg l_leaf_read_api_Ext_8
def l_leaf_read_api_Ext_9 : List AOp := [⟨(some 27), .bin .lss (.t 26) (.t 25), none, none, [], none⟩]
def ac_leaf_read_api_Ext_9 : AC := .reg l_leaf_read_api_Ext_9
def ac_leaf_read_api_Ext_10 : AC := .cond (.t 27) .skip (.exit 0)
def l_leaf_read_api_Ext_11 : List AOp := [⟨(some 29), .mv (.t 11), none, none, [], none⟩,
  ⟨(some 30), .mv (.t 1), none, none, [], none⟩,
  ⟨(some 31), .call false 47 [(.t 29), (.t 30)], none, none, [], none⟩,
  ⟨(some 28), .mv (.t 31), none, none, [], none⟩,
  ⟨(some 32), .ext 0 (.t 28), none, none, [], none⟩,
  ⟨(some 33), .ext 1 (.t 28), none, none, [], none⟩,
  ⟨(some 34), .ext 2 (.t 28), none, none, [], none⟩,
  ⟨(some 12), .mv (.t 32), none, none, [], none⟩,
  ⟨(some 13), .mv (.t 33), none, none, [], none⟩,
  ⟨(some 14), .mv (.t 34), none, none, [], none⟩]
def ac_leaf_read_api_Ext_11 : AC := .reg l_leaf_read_api_Ext_11
def l_leaf_read_api_Ext_12 : List AOp := [⟨(some 35), .mv (.t 14), none, none, [], none⟩,
  ⟨(some 36), .bin .neq (.t 35) (.k (.int .i64 0)), none, none, [], none⟩]
def ac_leaf_read_api_Ext_12 : AC := .reg l_leaf_read_api_Ext_12
def l_leaf_read_api_Ext_13 : List AOp := [⟨(some 8), .mv (.k (.slc [])), none, none, [], none⟩,
  ⟨(some 9), .mv (.k (.int .i64 3)), none, none, [], none⟩]
def ac_leaf_read_api_Ext_13 : AC := .reg l_leaf_read_api_Ext_13
def ac_leaf_read_api_Ext_14 : AC := .seq ac_leaf_read_api_Ext_13 .ret
def ac_leaf_read_api_Ext_15 : AC := .cond (.t 36) ac_leaf_read_api_Ext_14 .skip
def ac_leaf_read_api_Ext_16 : AC := .seq ac_leaf_read_api_Ext_12 ac_leaf_read_api_Ext_15
def l_leaf_read_api_Ext_17 : List AOp := [⟨(some 37), .mv (.t 10), none, none, [], none⟩,
  ⟨(some 38), .mv (.t 3), none, none, [], none⟩,
  ⟨(some 39), .mv (.t 12), none, none, [], none⟩,
  ⟨(some 40), .callv (.t 38) [(.t 39)], none, none, [], none⟩,
  ⟨(some 41), .blds false [(.int .i64 0), (.int .i64 0), (.int .i64 0), (.int .i64 0)] 1 [(0, (.t 40))], none, none, [], none⟩,
  ⟨(some 42), .app 4 32 [(.int .i64 0), (.int .i64 0), (.int .i64 0), (.int .i64 0)] (.t 37) (.t 41), none, none, [], none⟩,
  ⟨(some 43), .mv (.t 13), none, none, [], none⟩,
  ⟨(some 10), .mv (.t 42), none, none, [], none⟩,
  ⟨(some 11), .mv (.t 43), none, none, [], none⟩]
def ac_leaf_read_api_Ext_17 : AC := .reg l_leaf_read_api_Ext_17
def ac_leaf_read_api_Ext_18 : AC := .seq ac_leaf_read_api_Ext_16 ac_leaf_read_api_Ext_17
def ac_leaf_read_api_Ext_19 : AC := .seq ac_leaf_read_api_Ext_11 ac_leaf_read_api_Ext_18
def ac_leaf_read_api_Ext_20 : AC := .block 1 ac_leaf_read_api_Ext_19
def l_leaf_read_api_Ext_21 : List AOp := [⟨(some 44), .bin .add (.t 26) (.k (.int .u8 1)), none, none, [], none⟩,
  ⟨(some 26), .mv (.t 44), none, none, [], none⟩]
def ac_leaf_read_api_Ext_21 : AC := .reg l_leaf_read_api_Ext_21
def ac_leaf_read_api_Ext_22 : AC := .seq ac_leaf_read_api_Ext_20 ac_leaf_read_api_Ext_21
def ac_leaf_read_api_Ext_23 : AC := .seq ac_leaf_read_api_Ext_10 ac_leaf_read_api_Ext_22
def ac_leaf_read_api_Ext_24 : AC := .seq ac_leaf_read_api_Ext_9 ac_leaf_read_api_Ext_23
def ac_leaf_read_api_Ext_25 : AC := .loop [1, 2, 3, 10, 11, 25, 26] 1 ac_leaf_read_api_Ext_24
def ac_leaf_read_api_Ext_26 : AC := .block 0 ac_leaf_read_api_Ext_25
def ac_leaf_read_api_Ext_27 : AC := .seq ac_leaf_read_api_Ext_8 ac_leaf_read_api_Ext_26
def l_leaf_read_api_Ext_28 : List AOp := [⟨(some 45), .mv (.t 11), none, none, [], none⟩,
  ⟨(some 46), .bin .neq (.t 45) (.k (.str [])), none, none, [], none⟩,
  ⟨(some 47), .mv (.t 46), none, none, [], none⟩,
  ⟨(some 48), .mv (.t 2), (some (47, false)), none, [], none⟩,
  ⟨(some 49), .mv (.t 10), (some (47, false)), none, [], none⟩,
  ⟨(some 50), .callv (.t 48) [(.t 49)], (some (47, false)), none, [], none⟩,
  ⟨(some 51), .un .not (.t 50), (some (47, false)), none, [], none⟩,
  ⟨(some 52), .pick (.t 47) (.k (.bool true)) (.t 51), none, none, [], none⟩]
def ac_leaf_read_api_Ext_28 : AC := .reg l_leaf_read_api_Ext_28
def l_leaf_read_api_Ext_29 : List AOp := [⟨(some 8), .mv (.k (.slc [])), none, none, [], none⟩,
  ⟨(some 9), .mv (.k (.int .i64 3)), none, none, [], none⟩]
def ac_leaf_read_api_Ext_29 : AC := .reg l_leaf_read_api_Ext_29
def ac_leaf_read_api_Ext_30 : AC := .seq ac_leaf_read_api_Ext_29 .ret
def ac_leaf_read_api_Ext_31 : AC := .cond (.t 52) ac_leaf_read_api_Ext_30 .skip
def ac_leaf_read_api_Ext_32 : AC := .seq ac_leaf_read_api_Ext_28 ac_leaf_read_api_Ext_31
def l_leaf_read_api_Ext_33 : List AOp := [⟨(some 53), .mv (.t 10), none, none, [], none⟩,
  ⟨(some 8), .mv (.t 53), none, none, [], none⟩,
  ⟨(some 9), .mv (.k (.int .i64 0)), none, none, [], none⟩]
def ac_leaf_read_api_Ext_33 : AC := .reg l_leaf_read_api_Ext_33
def ac_leaf_read_api_Ext_34 : AC := .seq ac_leaf_read_api_Ext_33 .ret
def ac_leaf_read_api_Ext_35 : AC := .seq ac_leaf_read_api_Ext_32 ac_leaf_read_api_Ext_34
def ac_leaf_read_api_Ext_36 : AC := .seq ac_leaf_read_api_Ext_27 ac_leaf_read_api_Ext_35
def ac_leaf_read_api_Ext_37 : AC := .seq ac_leaf_read_api_Ext_7 ac_leaf_read_api_Ext_36
def ac_leaf_read_api_Ext_38 : AC := .seq ac_leaf_read_api_Ext_6 ac_leaf_read_api_Ext_37
def ac_leaf_read_api_Ext_39 : AC := .seq ac_leaf_read_api_Ext_5 ac_leaf_read_api_Ext_38
def ac_leaf_read_api_Ext_40 : AC := .seq ac_leaf_read_api_Ext_0 ac_leaf_read_api_Ext_39
def ac_leaf_read_api_Ext : AC := ac_leaf_read_api_Ext_40
theorem comp_leaf_read_api_Ext : compF Try.prog [10] (drawR Try.prog [10] Try.f30.ntmps) [([1, 2, 3, 10, 11, 25, 26], 1)] 4 Try.f30 = some (ac_leaf_read_api_Ext, [.t 8, .t 9]) := by kernel_rfl
def U_leaf_read_api_Ext := (And.intro (And.intro (And.intro (And.intro (And.intro (And.intro @ac_leaf_read_api_Ext.eq_1 (@mR _ _ ac_leaf_read_api_Ext_0.eq_1)) (And.intro (@mR _ _ ac_leaf_read_api_Ext_1.eq_1) (@mR _ _ ac_leaf_read_api_Ext_2.eq_1))) (And.intro (And.intro (@mU _ _ ac_leaf_read_api_Ext_3.eq_1) (@mU _ _ ac_leaf_read_api_Ext_4.eq_1)) (And.intro (@mU _ _ ac_leaf_read_api_Ext_5.eq_1) (@mR _ _ ac_leaf_read_api_Ext_6.eq_1)))) (And.intro (And.intro (And.intro (@mR _ _ ac_leaf_read_api_Ext_7.eq_1) (@mR _ _ ac_leaf_read_api_Ext_8.eq_1)) (And.intro (@mR _ _ ac_leaf_read_api_Ext_9.eq_1) (@mU _ _ ac_leaf_read_api_Ext_10.eq_1))) (And.intro (And.intro (@mR _ _ ac_leaf_read_api_Ext_11.eq_1) (@mR _ _ ac_leaf_read_api_Ext_12.eq_1)) (@mR _ _ ac_leaf_read_api_Ext_13.eq_1)))) (And.intro (And.intro (And.intro (And.intro (@mU _ _ ac_leaf_read_api_Ext_14.eq_1) (@mU _ _ ac_leaf_read_api_Ext_15.eq_1)) (And.intro (@mU _ _ ac_leaf_read_api_Ext_16.eq_1) (@mR _ _ ac_leaf_read_api_Ext_17.eq_1))) (And.intro (And.intro (@mU _ _ ac_leaf_read_api_Ext_18.eq_1) (@mU _ _ ac_leaf_read_api_Ext_19.eq_1)) (@mU _ _ ac_leaf_read_api_Ext_20.eq_1))) (And.intro (And.intro (And.intro (@mR _ _ ac_leaf_read_api_Ext_21.eq_1) (@mU _ _ ac_leaf_read_api_Ext_22.eq_1)) (And.intro (@mU _ _ ac_leaf_read_api_Ext_23.eq_1) (@mU _ _ ac_leaf_read_api_Ext_24.eq_1))) (And.intro (And.intro (@mU _ _ ac_leaf_read_api_Ext_25.eq_1) (@mU _ _ ac_leaf_read_api_Ext_26.eq_1)) (@mU _ _ ac_leaf_read_api_Ext_27.eq_1))))) (And.intro (And.intro (And.intro (And.intro (And.intro (@mR _ _ ac_leaf_read_api_Ext_28.eq_1) (@mR _ _ ac_leaf_read_api_Ext_29.eq_1)) (And.intro (@mU _ _ ac_leaf_read_api_Ext_30.eq_1) (@mU _ _ ac_leaf_read_api_Ext_31.eq_1))) (And.intro (And.intro (@mU _ _ ac_leaf_read_api_Ext_32.eq_1) (@mR _ _ ac_leaf_read_api_Ext_33.eq_1)) (@mU _ _ ac_leaf_read_api_Ext_34.eq_1))) (And.intro (And.intro (And.intro (@mU _ _ ac_leaf_read_api_Ext_35.eq_1) (@mU _ _ ac_leaf_read_api_Ext_36.eq_1)) (And.intro (@mU _ _ ac_leaf_read_api_Ext_37.eq_1) (@mU _ _ ac_leaf_read_api_Ext_38.eq_1))) (And.intro (And.intro (@mU _ _ ac_leaf_read_api_Ext_39.eq_1) (@mU _ _ ac_leaf_read_api_Ext_40.eq_1)) @l_leaf_read_api_Ext_0.eq_1))) (And.intro (And.intro (And.intro (And.intro @l_leaf_read_api_Ext_1.eq_1 @l_leaf_read_api_Ext_2.eq_1) (And.intro @l_leaf_read_api_Ext_6.eq_1 @l_leaf_read_api_Ext_7.eq_1)) (And.intro (And.intro @l_leaf_read_api_Ext_8.eq_1 @l_leaf_read_api_Ext_9.eq_1) @l_leaf_read_api_Ext_11.eq_1)) (And.intro (And.intro (And.intro @l_leaf_read_api_Ext_12.eq_1 @l_leaf_read_api_Ext_13.eq_1) (And.intro @l_leaf_read_api_Ext_17.eq_1 @l_leaf_read_api_Ext_21.eq_1)) (And.intro (And.intro @l_leaf_read_api_Ext_28.eq_1 @l_leaf_read_api_Ext_29.eq_1) @l_leaf_read_api_Ext_33.eq_1)))))

/- scoria/leaf.ReadLeaf$1 -/
def l_leaf_ReadLeaf_c1_0 : List AOp := [⟨(some 2), .alloc [(.int .i64 0), (.int .i64 0), (.int .i64 0), (.int .i64 0)], none, none, [], none⟩]
def ac_leaf_ReadLeaf_c1_0 : AC := .reg l_leaf_ReadLeaf_c1_0
def l_leaf_ReadLeaf_c1_1 : List AOp := [⟨(some 3), .mv (.t 0), none, none, [], none⟩,
  ⟨(some 4), .isl 1 (.t 3) (.k (.int .i64 0)), none, none, [], none⟩,
  ⟨(some 5), .load none (.t 4), none, none, [], none⟩,
  ⟨(some 6), .conv .i64 (.t 5), none, none, [], none⟩,
  ⟨(some 7), .mv (.t 0), none, none, [], none⟩,
  ⟨(some 8), .isl 1 (.t 7) (.k (.int .i64 1)), none, none, [], none⟩,
  ⟨(some 9), .load none (.t 8), none, none, [], none⟩,
  ⟨(some 10), .conv .i64 (.t 9), none, none, [], none⟩,
  ⟨(some 11), .mv (.t 0), none, none, [], none⟩,
  ⟨(some 12), .isl 1 (.t 11) (.k (.int .i64 2)), none, none, [], none⟩,
  ⟨(some 13), .load none (.t 12), none, none, [], none⟩,
  ⟨(some 14), .conv .i64 (.t 13), none, none, [], none⟩,
  ⟨(some 15), .mv (.t 0), none, none, [], none⟩,
  ⟨(some 16), .isl 1 (.t 15) (.k (.int .i64 3)), none, none, [], none⟩,
  ⟨(some 17), .load none (.t 16), none, none, [], none⟩,
  ⟨(some 18), .conv .i64 (.t 17), none, none, [], none⟩,
  ⟨(some 19), .build [(.int .i64 0), (.int .i64 0), (.int .i64 0), (.int .i64 0)] [(0, 1, (.t 6)), (1, 1, (.t 10)), (2, 1, (.t 14)), (3, 1, (.t 18))], none, none, [], none⟩,
  ⟨none, .store 4 (.t 2) (.t 19), none, none, [], none⟩]
def ac_leaf_ReadLeaf_c1_1 : AC := .dreg 0 l_leaf_ReadLeaf_c1_1
def ac_leaf_ReadLeaf_c1_2 : AC := .seq ac_leaf_ReadLeaf_c1_1 .ret
def ac_leaf_ReadLeaf_c1_3 : AC := .seq ac_leaf_ReadLeaf_c1_0 ac_leaf_ReadLeaf_c1_2
def ac_leaf_ReadLeaf_c1 : AC := ac_leaf_ReadLeaf_c1_3
theorem comp_leaf_ReadLeaf_c1 : compF Try.prog [] (drawR Try.prog [] Try.f31.ntmps) [] 1 Try.f31 = some (ac_leaf_ReadLeaf_c1, [.c 2 (some 4)]) := by kernel_rfl
def U_leaf_ReadLeaf_c1 := (And.intro (And.intro (And.intro @ac_leaf_ReadLeaf_c1.eq_1 (@mR _ _ ac_leaf_ReadLeaf_c1_0.eq_1)) (And.intro (@mD _ _ _ ac_leaf_ReadLeaf_c1_1.eq_1) (@mU _ _ ac_leaf_ReadLeaf_c1_2.eq_1))) (And.intro (And.intro (@mU _ _ ac_leaf_ReadLeaf_c1_3.eq_1) @l_leaf_ReadLeaf_c1_0.eq_1) @l_leaf_ReadLeaf_c1_1.eq_1))

/- scoria/scoriaref09.get -/
def l_ref09_get_0 : List AOp := [⟨(some 6), .mv (.k (.int .i64 0)), none, none, [], none⟩]
def ac_ref09_get_0 : AC := .reg l_ref09_get_0
def l_ref09_get_1 : List AOp := [⟨(some 10), .mv (.t 0), none, none, [], none⟩,
  ⟨(some 11), .mv (.t 1), none, none, [], none⟩,
  ⟨(some 12), .mv (.t 2), none, none, [], none⟩,
  ⟨(some 13), .call false 48 [(.t 10), (.t 11), (.t 12)], none, none, [], none⟩,
  ⟨(some 9), .mv (.t 13), none, none, [], none⟩,
  ⟨(some 14), .ext 0 (.t 9), none, none, [], none⟩,
  ⟨(some 15), .ext 1 (.t 9), none, none, [], none⟩,
  ⟨(some 7), .mv (.t 14), none, none, [], none⟩,
  ⟨(some 8), .mv (.t 15), none, none, [], none⟩]
def ac_ref09_get_1 : AC := .reg l_ref09_get_1
def l_ref09_get_2 : List AOp := [⟨(some 16), .mv (.t 7), none, none, [], none⟩,
  ⟨(some 17), .conv .i64 (.t 16), none, none, [], none⟩,
  ⟨(some 6), .mv (.t 17), none, none, [], none⟩]
def ac_ref09_get_2 : AC := .reg l_ref09_get_2
def ac_ref09_get_3 : AC := .seq ac_ref09_get_2 .ret
def ac_ref09_get_4 : AC := .seq ac_ref09_get_1 ac_ref09_get_3
def ac_ref09_get_5 : AC := .seq ac_ref09_get_0 ac_ref09_get_4
def ac_ref09_get : AC := ac_ref09_get_5
theorem comp_ref09_get : compF Try.prog [] (drawR Try.prog [] Try.f32.ntmps) [] 3 Try.f32 = some (ac_ref09_get, [.t 6]) := by kernel_rfl
def U_ref09_get := (And.intro (And.intro (And.intro (And.intro @ac_ref09_get.eq_1 (@mR _ _ ac_ref09_get_0.eq_1)) (@mR _ _ ac_ref09_get_1.eq_1)) (And.intro (@mR _ _ ac_ref09_get_2.eq_1) (@mU _ _ ac_ref09_get_3.eq_1))) (And.intro (And.intro (And.intro (@mU _ _ ac_ref09_get_4.eq_1) (@mU _ _ ac_ref09_get_5.eq_1)) @l_ref09_get_0.eq_1) (And.intro @l_ref09_get_1.eq_1 @l_ref09_get_2.eq_1)))

/- scoria/leaf.read[scoria/api.Kid] -/
def l_leaf_read_api_Kid_0 : List AOp := [⟨(some 8), .mv (.k (.slc [])), none, none, [], none⟩,
  ⟨(some 9), .mv (.k (.int .i64 0)), none, none, [], none⟩]
def ac_leaf_read_api_Kid_0 : AC := .reg l_leaf_read_api_Kid_0
def l_leaf_read_api_Kid_1 : List AOp := [⟨(some 15), .mv (.t 0), none, none, [], none⟩,
  ⟨(some 16), .bin .eql (.t 15) (.k (.str [])), none, none, [], none⟩,
  ⟨(some 17), .mv (.t 16), none, none, [], none⟩,
  ⟨(some 18), .mv (.t 0), (some (17, false)), none, [], none⟩,
  ⟨(some 19), .idxs (.t 18) (.k (.int .i64 0)), (some (17, false)), none, [], none⟩,
  ⟨(some 20), .bin .gtr (.t 19) (.k (.int .u8 8)), (some (17, false)), none, [], none⟩,
  ⟨(some 21), .pick (.t 17) (.k (.bool true)) (.t 20), none, none, [], none⟩]
def ac_leaf_read_api_Kid_1 : AC := .reg l_leaf_read_api_Kid_1
def l_leaf_read_api_Kid_2 : List AOp := [⟨(some 8), .mv (.k (.slc [])), none, none, [], none⟩,
  ⟨(some 9), .mv (.k (.int .i64 3)), none, none, [], none⟩]
def ac_leaf_read_api_Kid_2 : AC := .reg l_leaf_read_api_Kid_2
def ac_leaf_read_api_Kid_3 : AC := .seq ac_leaf_read_api_Kid_2 .ret
def ac_leaf_read_api_Kid_4 : AC := .cond (.t 21) ac_leaf_read_api_Kid_3 .skip
def ac_leaf_read_api_Kid_5 : AC := .seq ac_leaf_read_api_Kid_1 ac_leaf_read_api_Kid_4
def l_leaf_read_api_Kid_6 : List AOp := [⟨(some 10), .nilown 2, none, none, [], none⟩]
def ac_leaf_read_api_Kid_6 : AC := .reg l_leaf_read_api_Kid_6
def l_leaf_read_api_Kid_7 : List AOp := [⟨(some 22), .mv (.t 0), none, none, [], none⟩,
  ⟨(some 23), .sstr (.t 22) (some (.k (.int .i64 1))) none, none, none, [], none⟩,
  ⟨(some 11), .mv (.t 23), none, none, [], none⟩]
def ac_leaf_read_api_Kid_7 : AC := .reg l_leaf_read_api_Kid_7
def l_leaf_read_api_Kid_8 : List AOp := [⟨(some 24), .mv (.t 0), none, none, [], none⟩,
  ⟨(some 25), .idxs (.t 24) (.k (.int .i64 0)), none, none, [], none⟩,
  ⟨(some 26), .mv (.k (.int .u8 0)), none, none, [], none⟩]
def ac_leaf_read_api_Kid_8 : AC := .reg l_leaf_read_api_Kid_8
def l_leaf_read_api_Kid_9 : List AOp := [⟨(some 27), .bin .lss (.t 26) (.t 25), none, none, [], none⟩]
def ac_leaf_read_api_Kid_9 : AC := .reg l_leaf_read_api_Kid_9
def ac_leaf_read_api_Kid_10 : AC := .cond (.t 27) .skip (.exit 0)
def l_leaf_read_api_Kid_11 : List AOp := [⟨(some 29), .mv (.t 11), none, none, [], none⟩,
  ⟨(some 30), .mv (.t 1), none, none, [], none⟩,
  ⟨(some 31), .call false 47 [(.t 29), (.t 30)], none, none, [], none⟩,
  ⟨(some 28), .mv (.t 31), none, none, [], none⟩,
  ⟨(some 32), .ext 0 (.t 28), none, none, [], none⟩,
  ⟨(some 33), .ext 1 (.t 28), none, none, [], none⟩,
  ⟨(some 34), .ext 2 (.t 28), none, none, [], none⟩,
  ⟨(some 12), .mv (.t 32), none, none, [], none⟩,
  ⟨(some 13), .mv (.t 33), none, none, [], none⟩,
  ⟨(some 14), .mv (.t 34), none, none, [], none⟩]
def ac_leaf_read_api_Kid_11 : AC := .reg l_leaf_read_api_Kid_11
def l_leaf_read_api_Kid_12 : List AOp := [⟨(some 35), .mv (.t 14), none, none, [], none⟩,
  ⟨(some 36), .bin .neq (.t 35) (.k (.int .i64 0)), none, none, [], none⟩]
def ac_leaf_read_api_Kid_12 : AC := .reg l_leaf_read_api_Kid_12
def l_leaf_read_api_Kid_13 : List AOp := [⟨(some 8), .mv (.k (.slc [])), none, none, [], none⟩,
  ⟨(some 9), .mv (.k (.int .i64 3)), none, none, [], none⟩]
def ac_leaf_read_api_Kid_13 : AC := .reg l_leaf_read_api_Kid_13
def ac_leaf_read_api_Kid_14 : AC := .seq ac_leaf_read_api_Kid_13 .ret
def ac_leaf_read_api_Kid_15 : AC := .cond (.t 36) ac_leaf_read_api_Kid_14 .skip
def ac_leaf_read_api_Kid_16 : AC := .seq ac_leaf_read_api_Kid_12 ac_leaf_read_api_Kid_15
def l_leaf_read_api_Kid_17 : List AOp := [⟨(some 37), .mv (.t 10), none, none, [], none⟩,
  ⟨(some 38), .mv (.t 3), none, none, [], none⟩,
  ⟨(some 39), .mv (.t 12), none, none, [], none⟩,
  ⟨(some 40), .callv (.t 38) [(.t 39)], none, none, [], none⟩,
  ⟨(some 41), .blds false [(.int .i64 0), (.int .i64 0)] 1 [(0, (.t 40))], none, none, [], none⟩,
  ⟨(some 42), .app 2 16 [(.int .i64 0), (.int .i64 0)] (.t 37) (.t 41), none, none, [], none⟩,
  ⟨(some 43), .mv (.t 13), none, none, [], none⟩,
  ⟨(some 10), .mv (.t 42), none, none, [], none⟩,
  ⟨(some 11), .mv (.t 43), none, none, [], none⟩]
def ac_leaf_read_api_Kid_17 : AC := .reg l_leaf_read_api_Kid_17
def ac_leaf_read_api_Kid_18 : AC := .seq ac_leaf_read_api_Kid_16 ac_leaf_read_api_Kid_17
def ac_leaf_read_api_Kid_19 : AC := .seq ac_leaf_read_api_Kid_11 ac_leaf_read_api_Kid_18
def ac_leaf_read_api_Kid_20 : AC := .block 1 ac_leaf_read_api_Kid_19
def l_leaf_read_api_Kid_21 : List AOp := [⟨(some 44), .bin .add (.t 26) (.k (.int .u8 1)), none, none, [], none⟩,
  ⟨(some 26), .mv (.t 44), none, none, [], none⟩]
def ac_leaf_read_api_Kid_21 : AC := .reg l_leaf_read_api_Kid_21
def ac_leaf_read_api_Kid_22 : AC := .seq ac_leaf_read_api_Kid_20 ac_leaf_read_api_Kid_21
def ac_leaf_read_api_Kid_23 : AC := .seq ac_leaf_read_api_Kid_10 ac_leaf_read_api_Kid_22
def ac_leaf_read_api_Kid_24 : AC := .seq ac_leaf_read_api_Kid_9 ac_leaf_read_api_Kid_23
def ac_leaf_read_api_Kid_25 : AC := .loop [1, 2, 3, 10, 11, 25, 26] 1 ac_leaf_read_api_Kid_24
def ac_leaf_read_api_Kid_26 : AC := .block 0 ac_leaf_read_api_Kid_25
def ac_leaf_read_api_Kid_27 : AC := .seq ac_leaf_read_api_Kid_8 ac_leaf_read_api_Kid_26
def l_leaf_read_api_Kid_28 : List AOp := [⟨(some 45), .mv (.t 11), none, none, [], none⟩,
  ⟨(some 46), .bin .neq (.t 45) (.k (.str [])), none, none, [], none⟩,
  ⟨(some 47), .mv (.t 46), none, none, [], none⟩,
  ⟨(some 48), .mv (.t 2), (some (47, false)), none, [], none⟩,
  ⟨(some 49), .mv (.t 10), (some (47, false)), none, [], none⟩,
  ⟨(some 50), .callv (.t 48) [(.t 49)], (some (47, false)), none, [], none⟩,
  ⟨(some 51), .un .not (.t 50), (some (47, false)), none, [], none⟩,
  ⟨(some 52), .pick (.t 47) (.k (.bool true)) (.t 51), none, none, [], none⟩]
def ac_leaf_read_api_Kid_28 : AC := .reg l_leaf_read_api_Kid_28
def l_leaf_read_api_Kid_29 : List AOp := [⟨(some 8), .mv (.k (.slc [])), none, none, [], none⟩,
  ⟨(some 9), .mv (.k (.int .i64 3)), none, none, [], none⟩]
def ac_leaf_read_api_Kid_29 : AC := .reg l_leaf_read_api_Kid_29
def ac_leaf_read_api_Kid_30 : AC := .seq ac_leaf_read_api_Kid_29 .ret
def ac_leaf_read_api_Kid_31 : AC := .cond (.t 52) ac_leaf_read_api_Kid_30 .skip
def ac_leaf_read_api_Kid_32 : AC := .seq ac_leaf_read_api_Kid_28 ac_leaf_read_api_Kid_31
def l_leaf_read_api_Kid_33 : List AOp := [⟨(some 53), .mv (.t 10), none, none, [], none⟩,
  ⟨(some 8), .mv (.t 53), none, none, [], none⟩,
  ⟨(some 9), .mv (.k (.int .i64 0)), none, none, [], none⟩]
def ac_leaf_read_api_Kid_33 : AC := .reg l_leaf_read_api_Kid_33
def ac_leaf_read_api_Kid_34 : AC := .seq ac_leaf_read_api_Kid_33 .ret
def ac_leaf_read_api_Kid_35 : AC := .seq ac_leaf_read_api_Kid_32 ac_leaf_read_api_Kid_34
def ac_leaf_read_api_Kid_36 : AC := .seq ac_leaf_read_api_Kid_27 ac_leaf_read_api_Kid_35
def ac_leaf_read_api_Kid_37 : AC := .seq ac_leaf_read_api_Kid_7 ac_leaf_read_api_Kid_36
def ac_leaf_read_api_Kid_38 : AC := .seq ac_leaf_read_api_Kid_6 ac_leaf_read_api_Kid_37
def ac_leaf_read_api_Kid_39 : AC := .seq ac_leaf_read_api_Kid_5 ac_leaf_read_api_Kid_38
def ac_leaf_read_api_Kid_40 : AC := .seq ac_leaf_read_api_Kid_0 ac_leaf_read_api_Kid_39
def ac_leaf_read_api_Kid : AC := ac_leaf_read_api_Kid_40
theorem comp_leaf_read_api_Kid : compF Try.prog [10] (drawR Try.prog [10] Try.f33.ntmps) [([1, 2, 3, 10, 11, 25, 26], 1)] 4 Try.f33 = some (ac_leaf_read_api_Kid, [.t 8, .t 9]) := by kernel_rfl
def U_leaf_read_api_Kid := (And.intro (And.intro (And.intro (And.intro (And.intro (And.intro @ac_leaf_read_api_Kid.eq_1 (@mR _ _ ac_leaf_read_api_Kid_0.eq_1)) (And.intro (@mR _ _ ac_leaf_read_api_Kid_1.eq_1) (@mR _ _ ac_leaf_read_api_Kid_2.eq_1))) (And.intro (And.intro (@mU _ _ ac_leaf_read_api_Kid_3.eq_1) (@mU _ _ ac_leaf_read_api_Kid_4.eq_1)) (And.intro (@mU _ _ ac_leaf_read_api_Kid_5.eq_1) (@mR _ _ ac_leaf_read_api_Kid_6.eq_1)))) (And.intro (And.intro (And.intro (@mR _ _ ac_leaf_read_api_Kid_7.eq_1) (@mR _ _ ac_leaf_read_api_Kid_8.eq_1)) (And.intro (@mR _ _ ac_leaf_read_api_Kid_9.eq_1) (@mU _ _ ac_leaf_read_api_Kid_10.eq_1))) (And.intro (And.intro (@mR _ _ ac_leaf_read_api_Kid_11.eq_1) (@mR _ _ ac_leaf_read_api_Kid_12.eq_1)) (@mR _ _ ac_leaf_read_api_Kid_13.eq_1)))) (And.intro (And.intro (And.intro (And.intro (@mU _ _ ac_leaf_read_api_Kid_14.eq_1) (@mU _ _ ac_leaf_read_api_Kid_15.eq_1)) (And.intro (@mU _ _ ac_leaf_read_api_Kid_16.eq_1) (@mR _ _ ac_leaf_read_api_Kid_17.eq_1))) (And.intro (And.intro (@mU _ _ ac_leaf_read_api_Kid_18.eq_1) (@mU _ _ ac_leaf_read_api_Kid_19.eq_1)) (@mU _ _ ac_leaf_read_api_Kid_20.eq_1))) (And.intro (And.intro (And.intro (@mR _ _ ac_leaf_read_api_Kid_21.eq_1) (@mU _ _ ac_leaf_read_api_Kid_22.eq_1)) (And.intro (@mU _ _ ac_leaf_read_api_Kid_23.eq_1) (@mU _ _ ac_leaf_read_api_Kid_24.eq_1))) (And.intro (And.intro (@mU _ _ ac_leaf_read_api_Kid_25.eq_1) (@mU _ _ ac_leaf_read_api_Kid_26.eq_1)) (@mU _ _ ac_leaf_read_api_Kid_27.eq_1))))) (And.intro (And.intro (And.intro (And.intro (And.intro (@mR _ _ ac_leaf_read_api_Kid_28.eq_1) (@mR _ _ ac_leaf_read_api_Kid_29.eq_1)) (And.intro (@mU _ _ ac_leaf_read_api_Kid_30.eq_1) (@mU _ _ ac_leaf_read_api_Kid_31.eq_1))) (And.intro (And.intro (@mU _ _ ac_leaf_read_api_Kid_32.eq_1) (@mR _ _ ac_leaf_read_api_Kid_33.eq_1)) (@mU _ _ ac_leaf_read_api_Kid_34.eq_1))) (And.intro (And.intro (And.intro (@mU _ _ ac_leaf_read_api_Kid_35.eq_1) (@mU _ _ ac_leaf_read_api_Kid_36.eq_1)) (And.intro (@mU _ _ ac_leaf_read_api_Kid_37.eq_1) (@mU _ _ ac_leaf_read_api_Kid_38.eq_1))) (And.intro (And.intro (@mU _ _ ac_leaf_read_api_Kid_39.eq_1) (@mU _ _ ac_leaf_read_api_Kid_40.eq_1)) @l_leaf_read_api_Kid_0.eq_1))) (And.intro (And.intro (And.intro (And.intro @l_leaf_read_api_Kid_1.eq_1 @l_leaf_read_api_Kid_2.eq_1) (And.intro @l_leaf_read_api_Kid_6.eq_1 @l_leaf_read_api_Kid_7.eq_1)) (And.intro (And.intro @l_leaf_read_api_Kid_8.eq_1 @l_leaf_read_api_Kid_9.eq_1) @l_leaf_read_api_Kid_11.eq_1)) (And.intro (And.intro (And.intro @l_leaf_read_api_Kid_12.eq_1 @l_leaf_read_api_Kid_13.eq_1) (And.intro @l_leaf_read_api_Kid_17.eq_1 @l_leaf_read_api_Kid_21.eq_1)) (And.intro (And.intro @l_leaf_read_api_Kid_28.eq_1 @l_leaf_read_api_Kid_29.eq_1) @l_leaf_read_api_Kid_33.eq_1)))))

/- scoria/leaf.kidWidths -/
def l_leaf_kidWidths_0 : List AOp := [⟨(some 0), .mv (.k (.slc [])), none, none, [], none⟩]
def ac_leaf_kidWidths_0 : AC := .reg l_leaf_kidWidths_0
def l_leaf_kidWidths_1 : List AOp := [⟨(some 1), .blds false [(.int .i64 0)] 2 [(0, (.k (.int .i64 3))), (1, (.k (.int .i64 2)))], none, none, [], none⟩,
  ⟨(some 0), .mv (.t 1), none, none, [], none⟩]
def ac_leaf_kidWidths_1 : AC := .reg l_leaf_kidWidths_1
def ac_leaf_kidWidths_2 : AC := .seq ac_leaf_kidWidths_1 .ret
def ac_leaf_kidWidths_3 : AC := .seq ac_leaf_kidWidths_0 ac_leaf_kidWidths_2
def ac_leaf_kidWidths : AC := ac_leaf_kidWidths_3
theorem comp_leaf_kidWidths : compF Try.prog [] (drawR Try.prog [] Try.f34.ntmps) [] 0 Try.f34 = some (ac_leaf_kidWidths, [.t 0]) := by kernel_rfl
def U_leaf_kidWidths := (And.intro (And.intro (And.intro @ac_leaf_kidWidths.eq_1 (@mR _ _ ac_leaf_kidWidths_0.eq_1)) (And.intro (@mR _ _ ac_leaf_kidWidths_1.eq_1) (@mU _ _ ac_leaf_kidWidths_2.eq_1))) (And.intro (And.intro (@mU _ _ ac_leaf_kidWidths_3.eq_1) @l_leaf_kidWidths_0.eq_1) @l_leaf_kidWidths_1.eq_1))

/- scoria/leaf.kids -/
def l_leaf_kids_0 : List AOp := [⟨(some 2), .mv (.k (.bool false)), none, none, [], none⟩]
def ac_leaf_kids_0 : AC := .reg l_leaf_kids_0
def l_leaf_kids_1 : List AOp := [⟨(some 5), .mv (.t 0), none, none, [], none⟩,
  ⟨(some 6), .len (.t 5), none, none, [], none⟩,
  ⟨(some 7), .bin .lss (.t 6) (.k (.int .i64 2)), none, none, [], none⟩,
  ⟨(some 8), .mv (.t 7), none, none, [], none⟩,
  ⟨(some 9), .mv (.t 0), (some (8, false)), none, [], none⟩,
  ⟨(some 10), .len (.t 9), (some (8, false)), none, [], none⟩,
  ⟨(some 11), .bin .gtr (.t 10) (.k (.int .i64 8)), (some (8, false)), none, [], none⟩,
  ⟨(some 12), .pick (.t 8) (.k (.bool true)) (.t 11), none, none, [], none⟩]
def ac_leaf_kids_1 : AC := .reg l_leaf_kids_1
def l_leaf_kids_2 : List AOp := [⟨(some 2), .mv (.k (.bool false)), none, none, [], none⟩]
def ac_leaf_kids_2 : AC := .reg l_leaf_kids_2
def ac_leaf_kids_3 : AC := .seq ac_leaf_kids_2 .ret
def ac_leaf_kids_4 : AC := .cond (.t 12) ac_leaf_kids_3 .skip
def ac_leaf_kids_5 : AC := .seq ac_leaf_kids_1 ac_leaf_kids_4
def l_leaf_kids_6 : List AOp := [⟨(some 13), .mv (.t 0), none, none, [], none⟩,
  ⟨(some 14), .len (.t 13), none, none, [], none⟩,
  ⟨(some 15), .mv (.k (.int .i64 0)), none, none, [], none⟩]
def ac_leaf_kids_6 : AC := .reg l_leaf_kids_6
def l_leaf_kids_7 : List AOp := [⟨(some 16), .bin .lss (.t 15) (.t 14), none, none, [], none⟩]
def ac_leaf_kids_7 : AC := .reg l_leaf_kids_7
def ac_leaf_kids_8 : AC := .cond (.t 16) .skip (.exit 0)
def l_leaf_kids_9 : List AOp := [⟨(some 17), .mv (.t 15), none, none, [], none⟩,
  ⟨(some 18), .isl 2 (.t 13) (.t 15), none, none, [], none⟩,
  ⟨(some 19), .load (some 2) (.t 18), none, none, [], none⟩,
  ⟨(some 4), .alloc [(.int .i64 0), (.int .i64 0)], none, none, [], none⟩,
  ⟨(some 3), .mv (.t 17), none, none, [], none⟩,
  ⟨none, .store 2 (.t 4) (.t 19), none, none, [], none⟩]
def ac_leaf_kids_9 : AC := .reg l_leaf_kids_9
def l_leaf_kids_10 : List AOp := [⟨(some 20), .faddr 0 (.t 4), none, none, [], none⟩,
  ⟨(some 21), .load none (.t 20), none, none, [], none⟩,
  ⟨(some 22), .bin .lss (.t 21) (.k (.int .i64 0)), none, none, [], none⟩,
  ⟨(some 23), .mv (.t 22), none, none, [], none⟩,
  ⟨(some 24), .faddr 0 (.t 4), (some (23, false)), none, [], none⟩,
  ⟨(some 25), .load none (.t 24), (some (23, false)), none, [], none⟩,
  ⟨(some 26), .bin .geq (.t 25) (.k (.int .i64 16777216)), (some (23, false)), none, [], none⟩,
  ⟨(some 27), .pick (.t 23) (.k (.bool true)) (.t 26), none, none, [], none⟩,
  ⟨(some 28), .mv (.t 27), none, none, [], none⟩,
  ⟨(some 29), .faddr 1 (.t 4), (some (28, false)), none, [], none⟩,
  ⟨(some 30), .load none (.t 29), (some (28, false)), none, [], none⟩,
  ⟨(some 31), .bin .lss (.t 30) (.k (.int .i64 0)), (some (28, false)), none, [], none⟩,
  ⟨(some 32), .pick (.t 28) (.k (.bool true)) (.t 31), none, none, [], none⟩,
  ⟨(some 33), .mv (.t 32), none, none, [], none⟩,
  ⟨(some 34), .faddr 1 (.t 4), (some (33, false)), none, [], none⟩,
  ⟨(some 35), .load none (.t 34), (some (33, false)), none, [], none⟩,
  ⟨(some 36), .bin .geq (.t 35) (.k (.int .i64 2048)), (some (33, false)), none, [], none⟩,
  ⟨(some 37), .pick (.t 33) (.k (.bool true)) (.t 36), none, none, [], none⟩,
  ⟨(some 38), .mv (.t 37), none, none, [], none⟩,
  ⟨(some 39), .mv (.t 3), (some (38, false)), none, [], none⟩,
  ⟨(some 40), .bin .gtr (.t 39) (.k (.int .i64 0)), (some (38, false)), none, [], none⟩,
  ⟨(some 41), .mv (.t 40), (some (38, false)), none, [], none⟩,
  ⟨(some 42), .faddr 0 (.t 4), (some (41, true)), none, [], none⟩,
  ⟨(some 43), .load none (.t 42), (some (41, true)), none, [], none⟩,
  ⟨(some 44), .mv (.t 0), (some (41, true)), none, [], none⟩,
  ⟨(some 45), .mv (.t 3), (some (41, true)), none, [], none⟩,
  ⟨(some 46), .bin .sub (.t 45) (.k (.int .i64 1)), (some (41, true)), none, [], none⟩,
  ⟨(some 47), .isl 2 (.t 44) (.t 46), (some (41, true)), none, [], none⟩,
  ⟨(some 48), .faddr 0 (.t 47), (some (41, true)), none, [], none⟩,
  ⟨(some 49), .load none (.t 48), (some (41, true)), none, [], none⟩,
  ⟨(some 50), .bin .leq (.t 43) (.t 49), (some (41, true)), none, [], none⟩,
  ⟨(some 51), .pick (.t 41) (.t 50) (.k (.bool false)), (some (38, false)), none, [], none⟩,
  ⟨(some 52), .pick (.t 38) (.k (.bool true)) (.t 51), none, none, [], none⟩]
def ac_leaf_kids_10 : AC := .dreg 0 l_leaf_kids_10
def l_leaf_kids_11 : List AOp := [⟨(some 2), .mv (.k (.bool false)), none, none, [], none⟩]
def ac_leaf_kids_11 : AC := .reg l_leaf_kids_11
def ac_leaf_kids_12 : AC := .seq ac_leaf_kids_11 .ret
def ac_leaf_kids_13 : AC := .cond (.t 52) ac_leaf_kids_12 .skip
def ac_leaf_kids_14 : AC := .seq ac_leaf_kids_10 ac_leaf_kids_13
def l_leaf_kids_15 : List AOp := [⟨(some 53), .mv (.t 0), none, none, [], none⟩,
  ⟨(some 54), .mv (.t 3), none, none, [], none⟩,
  ⟨(some 55), .ssl 2 (.t 53) none (some (.t 54)), none, none, [], none⟩,
  ⟨(some 56), .mkfn (.func 50) [] [(.t 4)], none, none, [], none⟩,
  ⟨(some 57), .call false 49 [(.t 55), (.t 56)], none, none, [], none⟩]
def ac_leaf_kids_15 : AC := .reg l_leaf_kids_15
def l_leaf_kids_16 : List AOp := [⟨(some 2), .mv (.k (.bool false)), none, none, [], none⟩]
def ac_leaf_kids_16 : AC := .reg l_leaf_kids_16
def ac_leaf_kids_17 : AC := .seq ac_leaf_kids_16 .ret
def ac_leaf_kids_18 : AC := .cond (.t 57) ac_leaf_kids_17 .skip
def ac_leaf_kids_19 : AC := .seq ac_leaf_kids_15 ac_leaf_kids_18
def ac_leaf_kids_20 : AC := .seq ac_leaf_kids_14 ac_leaf_kids_19
def ac_leaf_kids_21 : AC := .seq ac_leaf_kids_9 ac_leaf_kids_20
def ac_leaf_kids_22 : AC := .block 1 ac_leaf_kids_21
def l_leaf_kids_23 : List AOp := [⟨(some 58), .bin .add (.t 15) (.k (.int .i64 1)), none, none, [], none⟩,
  ⟨(some 15), .mv (.t 58), none, none, [], none⟩]
def ac_leaf_kids_23 : AC := .reg l_leaf_kids_23
def ac_leaf_kids_24 : AC := .seq ac_leaf_kids_22 ac_leaf_kids_23
def ac_leaf_kids_25 : AC := .seq ac_leaf_kids_8 ac_leaf_kids_24
def ac_leaf_kids_26 : AC := .seq ac_leaf_kids_7 ac_leaf_kids_25
def ac_leaf_kids_27 : AC := .loop [0, 13, 14, 15] 0 ac_leaf_kids_26
def ac_leaf_kids_28 : AC := .block 0 ac_leaf_kids_27
def ac_leaf_kids_29 : AC := .seq ac_leaf_kids_6 ac_leaf_kids_28
def l_leaf_kids_30 : List AOp := [⟨(some 2), .mv (.k (.bool true)), none, none, [], none⟩]
def ac_leaf_kids_30 : AC := .reg l_leaf_kids_30
def ac_leaf_kids_31 : AC := .seq ac_leaf_kids_30 .ret
def ac_leaf_kids_32 : AC := .seq ac_leaf_kids_29 ac_leaf_kids_31
def ac_leaf_kids_33 : AC := .seq ac_leaf_kids_5 ac_leaf_kids_32
def ac_leaf_kids_34 : AC := .seq ac_leaf_kids_0 ac_leaf_kids_33
def ac_leaf_kids : AC := ac_leaf_kids_34
theorem comp_leaf_kids : compF Try.prog [] (drawR Try.prog [] Try.f35.ntmps) [([0, 13, 14, 15], 0)] 1 Try.f35 = some (ac_leaf_kids, [.t 2]) := by kernel_rfl
def U_leaf_kids := (And.intro (And.intro (And.intro (And.intro (And.intro (And.intro @ac_leaf_kids.eq_1 (@mR _ _ ac_leaf_kids_0.eq_1)) (@mR _ _ ac_leaf_kids_1.eq_1)) (And.intro (And.intro (@mR _ _ ac_leaf_kids_2.eq_1) (@mU _ _ ac_leaf_kids_3.eq_1)) (@mU _ _ ac_leaf_kids_4.eq_1))) (And.intro (And.intro (And.intro (@mU _ _ ac_leaf_kids_5.eq_1) (@mR _ _ ac_leaf_kids_6.eq_1)) (@mR _ _ ac_leaf_kids_7.eq_1)) (And.intro (And.intro (@mU _ _ ac_leaf_kids_8.eq_1) (@mR _ _ ac_leaf_kids_9.eq_1)) (@mD _ _ _ ac_leaf_kids_10.eq_1)))) (And.intro (And.intro (And.intro (And.intro (@mR _ _ ac_leaf_kids_11.eq_1) (@mU _ _ ac_leaf_kids_12.eq_1)) (@mU _ _ ac_leaf_kids_13.eq_1)) (And.intro (And.intro (@mU _ _ ac_leaf_kids_14.eq_1) (@mR _ _ ac_leaf_kids_15.eq_1)) (@mR _ _ ac_leaf_kids_16.eq_1))) (And.intro (And.intro (And.intro (@mU _ _ ac_leaf_kids_17.eq_1) (@mU _ _ ac_leaf_kids_18.eq_1)) (@mU _ _ ac_leaf_kids_19.eq_1)) (And.intro (And.intro (@mU _ _ ac_leaf_kids_20.eq_1) (@mU _ _ ac_leaf_kids_21.eq_1)) (@mU _ _ ac_leaf_kids_22.eq_1))))) (And.intro (And.intro (And.intro (And.intro (And.intro (@mR _ _ ac_leaf_kids_23.eq_1) (@mU _ _ ac_leaf_kids_24.eq_1)) (@mU _ _ ac_leaf_kids_25.eq_1)) (And.intro (And.intro (@mU _ _ ac_leaf_kids_26.eq_1) (@mU _ _ ac_leaf_kids_27.eq_1)) (@mU _ _ ac_leaf_kids_28.eq_1))) (And.intro (And.intro (And.intro (@mU _ _ ac_leaf_kids_29.eq_1) (@mR _ _ ac_leaf_kids_30.eq_1)) (@mU _ _ ac_leaf_kids_31.eq_1)) (And.intro (And.intro (@mU _ _ ac_leaf_kids_32.eq_1) (@mU _ _ ac_leaf_kids_33.eq_1)) (@mU _ _ ac_leaf_kids_34.eq_1)))) (And.intro (And.intro (And.intro (And.intro @l_leaf_kids_0.eq_1 @l_leaf_kids_1.eq_1) @l_leaf_kids_2.eq_1) (And.intro (And.intro @l_leaf_kids_6.eq_1 @l_leaf_kids_7.eq_1) @l_leaf_kids_9.eq_1)) (And.intro (And.intro (And.intro @l_leaf_kids_10.eq_1 @l_leaf_kids_11.eq_1) @l_leaf_kids_15.eq_1) (And.intro (And.intro @l_leaf_kids_16.eq_1 @l_leaf_kids_23.eq_1) @l_leaf_kids_30.eq_1)))))

/- scoria/leaf.ReadInner$1 -/
def l_leaf_ReadInner_c1_0 : List AOp := [⟨(some 2), .alloc [(.int .i64 0), (.int .i64 0)], none, none, [], none⟩]
def ac_leaf_ReadInner_c1_0 : AC := .reg l_leaf_ReadInner_c1_0
def l_leaf_ReadInner_c1_1 : List AOp := [⟨(some 3), .mv (.t 0), none, none, [], none⟩,
  ⟨(some 4), .isl 1 (.t 3) (.k (.int .i64 0)), none, none, [], none⟩,
  ⟨(some 5), .load none (.t 4), none, none, [], none⟩,
  ⟨(some 6), .conv .i64 (.t 5), none, none, [], none⟩,
  ⟨(some 7), .mv (.t 0), none, none, [], none⟩,
  ⟨(some 8), .isl 1 (.t 7) (.k (.int .i64 1)), none, none, [], none⟩,
  ⟨(some 9), .load none (.t 8), none, none, [], none⟩,
  ⟨(some 10), .conv .i64 (.t 9), none, none, [], none⟩,
  ⟨(some 11), .build [(.int .i64 0), (.int .i64 0)] [(0, 1, (.t 6)), (1, 1, (.t 10))], none, none, [], none⟩,
  ⟨none, .store 2 (.t 2) (.t 11), none, none, [], none⟩]
def ac_leaf_ReadInner_c1_1 : AC := .dreg 0 l_leaf_ReadInner_c1_1
def ac_leaf_ReadInner_c1_2 : AC := .seq ac_leaf_ReadInner_c1_1 .ret
def ac_leaf_ReadInner_c1_3 : AC := .seq ac_leaf_ReadInner_c1_0 ac_leaf_ReadInner_c1_2
def ac_leaf_ReadInner_c1 : AC := ac_leaf_ReadInner_c1_3
theorem comp_leaf_ReadInner_c1 : compF Try.prog [] (drawR Try.prog [] Try.f36.ntmps) [] 1 Try.f36 = some (ac_leaf_ReadInner_c1, [.c 2 (some 2)]) := by kernel_rfl
def U_leaf_ReadInner_c1 := (And.intro (And.intro (And.intro @ac_leaf_ReadInner_c1.eq_1 (@mR _ _ ac_leaf_ReadInner_c1_0.eq_1)) (And.intro (@mD _ _ _ ac_leaf_ReadInner_c1_1.eq_1) (@mU _ _ ac_leaf_ReadInner_c1_2.eq_1))) (And.intro (And.intro (@mU _ _ ac_leaf_ReadInner_c1_3.eq_1) @l_leaf_ReadInner_c1_0.eq_1) @l_leaf_ReadInner_c1_1.eq_1))

/- scoria/leaf.write[scoria/api.Kid] -/
def l_leaf_write_api_Kid_0 : List AOp := [⟨(some 6), .mv (.k (.str [])), none, none, [], none⟩,
  ⟨(some 7), .mv (.k (.int .i64 0)), none, none, [], none⟩]
def ac_leaf_write_api_Kid_0 : AC := .reg l_leaf_write_api_Kid_0
def l_leaf_write_api_Kid_1 : List AOp := [⟨(some 13), .mv (.t 0), none, none, [], none⟩,
  ⟨(some 14), .len (.t 13), none, none, [], none⟩,
  ⟨(some 15), .conv .u8 (.t 14), none, none, [], none⟩,
  ⟨(some 16), .blds false [(.int .u8 0)] 1 [(0, (.t 15))], none, none, [], none⟩,
  ⟨(some 17), .b2s (.t 16), none, none, [], none⟩,
  ⟨(some 8), .mv (.t 17), none, none, [], none⟩]
def ac_leaf_write_api_Kid_1 : AC := .reg l_leaf_write_api_Kid_1
def l_leaf_write_api_Kid_2 : List AOp := [⟨(some 18), .mv (.t 0), none, none, [], none⟩,
  ⟨(some 19), .len (.t 18), none, none, [], none⟩,
  ⟨(some 20), .mv (.k (.int .i64 0)), none, none, [], none⟩]
def ac_leaf_write_api_Kid_2 : AC := .reg l_leaf_write_api_Kid_2
def l_leaf_write_api_Kid_3 : List AOp := [⟨(some 21), .bin .lss (.t 20) (.t 19), none, none, [], none⟩]
def ac_leaf_write_api_Kid_3 : AC := .reg l_leaf_write_api_Kid_3
def ac_leaf_write_api_Kid_4 : AC := .cond (.t 21) .skip (.exit 0)
def l_leaf_write_api_Kid_5 : List AOp := [⟨(some 22), .isl 2 (.t 18) (.t 20), none, none, [], none⟩,
  ⟨(some 23), .load (some 2) (.t 22), none, none, [], none⟩,
  ⟨(some 10), .alloc [(.int .i64 0), (.int .i64 0)], none, none, [], none⟩,
  ⟨none, .store 2 (.t 10) (.t 23), none, none, [], none⟩]
def ac_leaf_write_api_Kid_5 : AC := .reg l_leaf_write_api_Kid_5
def l_leaf_write_api_Kid_6 : List AOp := [⟨(some 25), .mv (.t 2), none, none, [], none⟩,
  ⟨(some 26), .load (some 2) (.t 10), none, none, [], none⟩,
  ⟨(some 27), .callv (.t 25) [(.t 26)], none, none, [], none⟩,
  ⟨(some 28), .mv (.t 1), none, none, [], none⟩,
  ⟨(some 29), .call false 44 [(.t 27), (.t 28)], none, none, [], none⟩,
  ⟨(some 24), .mv (.t 29), none, none, [], none⟩,
  ⟨(some 30), .ext 0 (.t 24), none, none, [], none⟩,
  ⟨(some 31), .ext 1 (.t 24), none, none, [], none⟩,
  ⟨(some 11), .mv (.t 30), none, none, [], none⟩,
  ⟨(some 12), .mv (.t 31), none, none, [], none⟩]
def ac_leaf_write_api_Kid_6 : AC := .reg l_leaf_write_api_Kid_6
def l_leaf_write_api_Kid_7 : List AOp := [⟨(some 32), .mv (.t 12), none, none, [], none⟩,
  ⟨(some 33), .bin .neq (.t 32) (.k (.int .i64 0)), none, none, [], none⟩]
def ac_leaf_write_api_Kid_7 : AC := .reg l_leaf_write_api_Kid_7
def l_leaf_write_api_Kid_8 : List AOp := [⟨(some 34), .mv (.t 12), none, none, [], none⟩,
  ⟨(some 6), .mv (.k (.str [])), none, none, [], none⟩,
  ⟨(some 7), .mv (.t 34), none, none, [], none⟩]
def ac_leaf_write_api_Kid_8 : AC := .reg l_leaf_write_api_Kid_8
def ac_leaf_write_api_Kid_9 : AC := .seq ac_leaf_write_api_Kid_8 .ret
def ac_leaf_write_api_Kid_10 : AC := .cond (.t 33) ac_leaf_write_api_Kid_9 .skip
def ac_leaf_write_api_Kid_11 : AC := .seq ac_leaf_write_api_Kid_7 ac_leaf_write_api_Kid_10
def l_leaf_write_api_Kid_12 : List AOp := [⟨(some 35), .mv (.t 8), none, none, [], none⟩,
  ⟨(some 36), .mv (.t 11), none, none, [], none⟩,
  ⟨(some 37), .bin .add (.t 35) (.t 36), none, none, [], none⟩,
  ⟨(some 8), .mv (.t 37), none, none, [], none⟩]
def ac_leaf_write_api_Kid_12 : AC := .reg l_leaf_write_api_Kid_12
def ac_leaf_write_api_Kid_13 : AC := .seq ac_leaf_write_api_Kid_11 ac_leaf_write_api_Kid_12
def ac_leaf_write_api_Kid_14 : AC := .seq ac_leaf_write_api_Kid_6 ac_leaf_write_api_Kid_13
def ac_leaf_write_api_Kid_15 : AC := .seq ac_leaf_write_api_Kid_5 ac_leaf_write_api_Kid_14
def ac_leaf_write_api_Kid_16 : AC := .block 1 ac_leaf_write_api_Kid_15
def l_leaf_write_api_Kid_17 : List AOp := [⟨(some 38), .bin .add (.t 20) (.k (.int .i64 1)), none, none, [], none⟩,
  ⟨(some 20), .mv (.t 38), none, none, [], none⟩]
def ac_leaf_write_api_Kid_17 : AC := .reg l_leaf_write_api_Kid_17
def ac_leaf_write_api_Kid_18 : AC := .seq ac_leaf_write_api_Kid_16 ac_leaf_write_api_Kid_17
def ac_leaf_write_api_Kid_19 : AC := .seq ac_leaf_write_api_Kid_4 ac_leaf_write_api_Kid_18
def ac_leaf_write_api_Kid_20 : AC := .seq ac_leaf_write_api_Kid_3 ac_leaf_write_api_Kid_19
def ac_leaf_write_api_Kid_21 : AC := .loop [1, 2, 8, 18, 19, 20] 0 ac_leaf_write_api_Kid_20
def ac_leaf_write_api_Kid_22 : AC := .block 0 ac_leaf_write_api_Kid_21
def ac_leaf_write_api_Kid_23 : AC := .seq ac_leaf_write_api_Kid_2 ac_leaf_write_api_Kid_22
def l_leaf_write_api_Kid_24 : List AOp := [⟨(some 39), .mv (.t 8), none, none, [], none⟩,
  ⟨(some 6), .mv (.t 39), none, none, [], none⟩,
  ⟨(some 7), .mv (.k (.int .i64 0)), none, none, [], none⟩]
def ac_leaf_write_api_Kid_24 : AC := .reg l_leaf_write_api_Kid_24
def ac_leaf_write_api_Kid_25 : AC := .seq ac_leaf_write_api_Kid_24 .ret
def ac_leaf_write_api_Kid_26 : AC := .seq ac_leaf_write_api_Kid_23 ac_leaf_write_api_Kid_25
def ac_leaf_write_api_Kid_27 : AC := .seq ac_leaf_write_api_Kid_1 ac_leaf_write_api_Kid_26
def ac_leaf_write_api_Kid_28 : AC := .seq ac_leaf_write_api_Kid_0 ac_leaf_write_api_Kid_27
def ac_leaf_write_api_Kid : AC := ac_leaf_write_api_Kid_28
theorem comp_leaf_write_api_Kid : compF Try.prog [] (drawR Try.prog [] Try.f37.ntmps) [([1, 2, 8, 18, 19, 20], 0)] 3 Try.f37 = some (ac_leaf_write_api_Kid, [.t 6, .t 7]) := by kernel_rfl
def U_leaf_write_api_Kid := (And.intro (And.intro (And.intro (And.intro (And.intro (And.intro @ac_leaf_write_api_Kid.eq_1 (@mR _ _ ac_leaf_write_api_Kid_0.eq_1)) (@mR _ _ ac_leaf_write_api_Kid_1.eq_1)) (And.intro (And.intro (@mR _ _ ac_leaf_write_api_Kid_2.eq_1) (@mR _ _ ac_leaf_write_api_Kid_3.eq_1)) (@mU _ _ ac_leaf_write_api_Kid_4.eq_1))) (And.intro (And.intro (And.intro (@mR _ _ ac_leaf_write_api_Kid_5.eq_1) (@mR _ _ ac_leaf_write_api_Kid_6.eq_1)) (@mR _ _ ac_leaf_write_api_Kid_7.eq_1)) (And.intro (@mR _ _ ac_leaf_write_api_Kid_8.eq_1) (@mU _ _ ac_leaf_write_api_Kid_9.eq_1)))) (And.intro (And.intro (And.intro (And.intro (@mU _ _ ac_leaf_write_api_Kid_10.eq_1) (@mU _ _ ac_leaf_write_api_Kid_11.eq_1)) (@mR _ _ ac_leaf_write_api_Kid_12.eq_1)) (And.intro (@mU _ _ ac_leaf_write_api_Kid_13.eq_1) (@mU _ _ ac_leaf_write_api_Kid_14.eq_1))) (And.intro (And.intro (And.intro (@mU _ _ ac_leaf_write_api_Kid_15.eq_1) (@mU _ _ ac_leaf_write_api_Kid_16.eq_1)) (@mR _ _ ac_leaf_write_api_Kid_17.eq_1)) (And.intro (@mU _ _ ac_leaf_write_api_Kid_18.eq_1) (@mU _ _ ac_leaf_write_api_Kid_19.eq_1))))) (And.intro (And.intro (And.intro (And.intro (And.intro (@mU _ _ ac_leaf_write_api_Kid_20.eq_1) (@mU _ _ ac_leaf_write_api_Kid_21.eq_1)) (@mU _ _ ac_leaf_write_api_Kid_22.eq_1)) (And.intro (@mU _ _ ac_leaf_write_api_Kid_23.eq_1) (@mR _ _ ac_leaf_write_api_Kid_24.eq_1))) (And.intro (And.intro (And.intro (@mU _ _ ac_leaf_write_api_Kid_25.eq_1) (@mU _ _ ac_leaf_write_api_Kid_26.eq_1)) (@mU _ _ ac_leaf_write_api_Kid_27.eq_1)) (And.intro (@mU _ _ ac_leaf_write_api_Kid_28.eq_1) @l_leaf_write_api_Kid_0.eq_1))) (And.intro (And.intro (And.intro (And.intro @l_leaf_write_api_Kid_1.eq_1 @l_leaf_write_api_Kid_2.eq_1) @l_leaf_write_api_Kid_3.eq_1) (And.intro @l_leaf_write_api_Kid_5.eq_1 @l_leaf_write_api_Kid_6.eq_1)) (And.intro (And.intro (And.intro @l_leaf_write_api_Kid_7.eq_1 @l_leaf_write_api_Kid_8.eq_1) @l_leaf_write_api_Kid_12.eq_1) (And.intro @l_leaf_write_api_Kid_17.eq_1 @l_leaf_write_api_Kid_24.eq_1)))))

/- scoria/leaf.Inner$1 -/
def l_leaf_Inner_c1_0 : List AOp := [⟨(some 1), .box (.t 0), none, none, [], none⟩,
  ⟨(some 2), .mv (.k (.slc [])), none, none, [], none⟩]
def ac_leaf_Inner_c1_0 : AC := .reg l_leaf_Inner_c1_0
def l_leaf_Inner_c1_1 : List AOp := [⟨(some 3), .faddr 0 (.t 1), none, none, [], none⟩,
  ⟨(some 4), .load none (.t 3), none, none, [], none⟩,
  ⟨(some 5), .conv .u64 (.t 4), none, none, [], none⟩,
  ⟨(some 6), .faddr 1 (.t 1), none, none, [], none⟩,
  ⟨(some 7), .load none (.t 6), none, none, [], none⟩,
  ⟨(some 8), .conv .u64 (.t 7), none, none, [], none⟩,
  ⟨(some 9), .blds false [(.int .u64 0)] 2 [(0, (.t 5)), (1, (.t 8))], none, none, [], none⟩,
  ⟨(some 2), .mv (.t 9), none, none, [], none⟩]
def ac_leaf_Inner_c1_1 : AC := .reg l_leaf_Inner_c1_1
def ac_leaf_Inner_c1_2 : AC := .seq ac_leaf_Inner_c1_1 .ret
def ac_leaf_Inner_c1_3 : AC := .seq ac_leaf_Inner_c1_0 ac_leaf_Inner_c1_2
def ac_leaf_Inner_c1 : AC := ac_leaf_Inner_c1_3
theorem comp_leaf_Inner_c1 : compF Try.prog [] (drawR Try.prog [] Try.f38.ntmps) [] 1 Try.f38 = some (ac_leaf_Inner_c1, [.t 2]) := by kernel_rfl
def U_leaf_Inner_c1 := (And.intro (And.intro (And.intro @ac_leaf_Inner_c1.eq_1 (@mR _ _ ac_leaf_Inner_c1_0.eq_1)) (And.intro (@mR _ _ ac_leaf_Inner_c1_1.eq_1) (@mU _ _ ac_leaf_Inner_c1_2.eq_1))) (And.intro (And.intro (@mU _ _ ac_leaf_Inner_c1_3.eq_1) @l_leaf_Inner_c1_0.eq_1) @l_leaf_Inner_c1_1.eq_1))

/- scoria/scoriaref09.Kids -/
def l_ref09_Kids_0 : List AOp := [⟨(some 2), .mv (.k (.bool false)), none, none, [], none⟩]
def ac_ref09_Kids_0 : AC := .reg l_ref09_Kids_0
def l_ref09_Kids_1 : List AOp := [⟨(some 3), .mv (.k (.int .i64 0)), none, none, [], none⟩]
def ac_ref09_Kids_1 : AC := .reg l_ref09_Kids_1
def l_ref09_Kids_2 : List AOp := [⟨(some 5), .mv (.t 3), none, none, [], none⟩,
  ⟨(some 6), .mv (.t 0), none, none, [], none⟩,
  ⟨(some 7), .len (.t 6), none, none, [], none⟩,
  ⟨(some 8), .bin .lss (.t 5) (.t 7), none, none, [], none⟩]
def ac_ref09_Kids_2 : AC := .reg l_ref09_Kids_2
def ac_ref09_Kids_3 : AC := .cond (.t 8) .skip (.exit 0)
def ac_ref09_Kids_4 : AC := .seq ac_ref09_Kids_2 ac_ref09_Kids_3
def l_ref09_Kids_5 : List AOp := [⟨(some 11), .mv (.t 0), none, none, [], none⟩,
  ⟨(some 12), .mv (.t 3), none, none, [], none⟩,
  ⟨(some 13), .isl 2 (.t 11) (.t 12), none, none, [], none⟩,
  ⟨(some 14), .faddr 0 (.t 13), none, none, [], none⟩,
  ⟨(some 15), .load none (.t 14), none, none, [], none⟩,
  ⟨(some 16), .bin .lss (.t 15) (.k (.int .i64 0)), none, none, [], none⟩,
  ⟨(some 17), .mv (.t 16), none, none, [], none⟩,
  ⟨(some 18), .mv (.t 0), (some (17, false)), none, [], none⟩,
  ⟨(some 19), .mv (.t 3), (some (17, false)), none, [], none⟩,
  ⟨(some 20), .isl 2 (.t 18) (.t 19), (some (17, false)), none, [], none⟩,
  ⟨(some 21), .faddr 0 (.t 20), (some (17, false)), none, [], none⟩,
  ⟨(some 22), .load none (.t 21), (some (17, false)), none, [], none⟩,
  ⟨(some 23), .bin .gtr (.t 22) (.k (.int .i64 16777215)), (some (17, false)), none, [], none⟩,
  ⟨(some 24), .pick (.t 17) (.k (.bool true)) (.t 23), none, none, [], none⟩,
  ⟨(some 25), .mv (.t 24), none, none, [], none⟩,
  ⟨(some 26), .mv (.t 0), (some (25, false)), none, [], none⟩,
  ⟨(some 27), .mv (.t 3), (some (25, false)), none, [], none⟩,
  ⟨(some 28), .isl 2 (.t 26) (.t 27), (some (25, false)), none, [], none⟩,
  ⟨(some 29), .faddr 1 (.t 28), (some (25, false)), none, [], none⟩,
  ⟨(some 30), .load none (.t 29), (some (25, false)), none, [], none⟩,
  ⟨(some 31), .bin .lss (.t 30) (.k (.int .i64 0)), (some (25, false)), none, [], none⟩,
  ⟨(some 32), .pick (.t 25) (.k (.bool true)) (.t 31), none, none, [], none⟩,
  ⟨(some 33), .mv (.t 32), none, none, [], none⟩,
  ⟨(some 34), .mv (.t 0), (some (33, false)), none, [], none⟩,
  ⟨(some 35), .mv (.t 3), (some (33, false)), none, [], none⟩,
  ⟨(some 36), .isl 2 (.t 34) (.t 35), (some (33, false)), none, [], none⟩,
  ⟨(some 37), .faddr 1 (.t 36), (some (33, false)), none, [], none⟩,
  ⟨(some 38), .load none (.t 37), (some (33, false)), none, [], none⟩,
  ⟨(some 39), .bin .gtr (.t 38) (.k (.int .i64 2047)), (some (33, false)), none, [], none⟩,
  ⟨(some 40), .pick (.t 33) (.k (.bool true)) (.t 39), none, none, [], none⟩]
def ac_ref09_Kids_5 : AC := .reg l_ref09_Kids_5
def l_ref09_Kids_6 : List AOp := [⟨(some 2), .mv (.k (.bool false)), none, none, [], none⟩]
def ac_ref09_Kids_6 : AC := .reg l_ref09_Kids_6
def ac_ref09_Kids_7 : AC := .seq ac_ref09_Kids_6 .ret
def ac_ref09_Kids_8 : AC := .cond (.t 40) ac_ref09_Kids_7 .skip
def ac_ref09_Kids_9 : AC := .seq ac_ref09_Kids_5 ac_ref09_Kids_8
def l_ref09_Kids_10 : List AOp := [⟨(some 41), .mv (.t 3), none, none, [], none⟩,
  ⟨(some 42), .bin .gtr (.t 41) (.k (.int .i64 0)), none, none, [], none⟩,
  ⟨(some 43), .mv (.t 42), none, none, [], none⟩,
  ⟨(some 44), .mv (.t 0), (some (43, true)), none, [], none⟩,
  ⟨(some 45), .mv (.t 3), (some (43, true)), none, [], none⟩,
  ⟨(some 46), .bin .sub (.t 45) (.k (.int .i64 1)), (some (43, true)), none, [], none⟩,
  ⟨(some 47), .isl 2 (.t 44) (.t 46), (some (43, true)), none, [], none⟩,
  ⟨(some 48), .faddr 0 (.t 47), (some (43, true)), none, [], none⟩,
  ⟨(some 49), .load none (.t 48), (some (43, true)), none, [], none⟩,
  ⟨(some 50), .mv (.t 0), (some (43, true)), none, [], none⟩,
  ⟨(some 51), .mv (.t 3), (some (43, true)), none, [], none⟩,
  ⟨(some 52), .isl 2 (.t 50) (.t 51), (some (43, true)), none, [], none⟩,
  ⟨(some 53), .faddr 0 (.t 52), (some (43, true)), none, [], none⟩,
  ⟨(some 54), .load none (.t 53), (some (43, true)), none, [], none⟩,
  ⟨(some 55), .bin .geq (.t 49) (.t 54), (some (43, true)), none, [], none⟩,
  ⟨(some 56), .pick (.t 43) (.t 55) (.k (.bool false)), none, none, [], none⟩]
def ac_ref09_Kids_10 : AC := .dreg 0 l_ref09_Kids_10
def l_ref09_Kids_11 : List AOp := [⟨(some 2), .mv (.k (.bool false)), none, none, [], none⟩]
def ac_ref09_Kids_11 : AC := .reg l_ref09_Kids_11
def ac_ref09_Kids_12 : AC := .seq ac_ref09_Kids_11 .ret
def ac_ref09_Kids_13 : AC := .cond (.t 56) ac_ref09_Kids_12 .skip
def ac_ref09_Kids_14 : AC := .seq ac_ref09_Kids_10 ac_ref09_Kids_13
def l_ref09_Kids_15 : List AOp := [⟨(some 4), .mv (.k (.int .i64 0)), none, none, [], none⟩]
def ac_ref09_Kids_15 : AC := .reg l_ref09_Kids_15
def l_ref09_Kids_16 : List AOp := [⟨(some 57), .mv (.t 4), none, none, [], none⟩,
  ⟨(some 58), .mv (.t 3), none, none, [], none⟩,
  ⟨(some 59), .bin .lss (.t 57) (.t 58), none, none, [], none⟩]
def ac_ref09_Kids_16 : AC := .reg l_ref09_Kids_16
def ac_ref09_Kids_17 : AC := .cond (.t 59) .skip (.exit 2)
def ac_ref09_Kids_18 : AC := .seq ac_ref09_Kids_16 ac_ref09_Kids_17
def l_ref09_Kids_19 : List AOp := [⟨(some 62), .mv (.t 0), none, none, [], none⟩,
  ⟨(some 63), .mv (.t 4), none, none, [], none⟩,
  ⟨(some 64), .isl 2 (.t 62) (.t 63), none, none, [], none⟩,
  ⟨(some 65), .faddr 1 (.t 64), none, none, [], none⟩,
  ⟨(some 66), .load none (.t 65), none, none, [], none⟩,
  ⟨(some 67), .mv (.t 0), none, none, [], none⟩,
  ⟨(some 68), .mv (.t 3), none, none, [], none⟩,
  ⟨(some 69), .isl 2 (.t 67) (.t 68), none, none, [], none⟩,
  ⟨(some 70), .faddr 1 (.t 69), none, none, [], none⟩,
  ⟨(some 71), .load none (.t 70), none, none, [], none⟩,
  ⟨(some 72), .bin .eql (.t 66) (.t 71), none, none, [], none⟩]
def ac_ref09_Kids_19 : AC := .dreg 0 l_ref09_Kids_19
def l_ref09_Kids_20 : List AOp := [⟨(some 2), .mv (.k (.bool false)), none, none, [], none⟩]
def ac_ref09_Kids_20 : AC := .reg l_ref09_Kids_20
def ac_ref09_Kids_21 : AC := .seq ac_ref09_Kids_20 .ret
def ac_ref09_Kids_22 : AC := .cond (.t 72) ac_ref09_Kids_21 .skip
def ac_ref09_Kids_23 : AC := .seq ac_ref09_Kids_19 ac_ref09_Kids_22
def ac_ref09_Kids_24 : AC := .block 3 ac_ref09_Kids_23
def l_ref09_Kids_25 : List AOp := [⟨(some 60), .mv (.t 4), none, none, [], none⟩,
  ⟨(some 61), .bin .add (.t 60) (.k (.int .i64 1)), none, none, [], none⟩,
  ⟨(some 4), .mv (.t 61), none, none, [], none⟩]
def ac_ref09_Kids_25 : AC := .reg l_ref09_Kids_25
def ac_ref09_Kids_26 : AC := .seq ac_ref09_Kids_24 ac_ref09_Kids_25
def ac_ref09_Kids_27 : AC := .seq ac_ref09_Kids_18 ac_ref09_Kids_26
def ac_ref09_Kids_28 : AC := .loop [0, 3, 4] 0 ac_ref09_Kids_27
def ac_ref09_Kids_29 : AC := .block 2 ac_ref09_Kids_28
def ac_ref09_Kids_30 : AC := .seq ac_ref09_Kids_15 ac_ref09_Kids_29
def ac_ref09_Kids_31 : AC := .seq ac_ref09_Kids_14 ac_ref09_Kids_30
def ac_ref09_Kids_32 : AC := .seq ac_ref09_Kids_9 ac_ref09_Kids_31
def ac_ref09_Kids_33 : AC := .block 1 ac_ref09_Kids_32
def l_ref09_Kids_34 : List AOp := [⟨(some 9), .mv (.t 3), none, none, [], none⟩,
  ⟨(some 10), .bin .add (.t 9) (.k (.int .i64 1)), none, none, [], none⟩,
  ⟨(some 3), .mv (.t 10), none, none, [], none⟩]
def ac_ref09_Kids_34 : AC := .reg l_ref09_Kids_34
def ac_ref09_Kids_35 : AC := .seq ac_ref09_Kids_33 ac_ref09_Kids_34
def ac_ref09_Kids_36 : AC := .seq ac_ref09_Kids_4 ac_ref09_Kids_35
def ac_ref09_Kids_37 : AC := .loop [0, 3] 0 ac_ref09_Kids_36
def ac_ref09_Kids_38 : AC := .block 0 ac_ref09_Kids_37
def ac_ref09_Kids_39 : AC := .seq ac_ref09_Kids_1 ac_ref09_Kids_38
def l_ref09_Kids_40 : List AOp := [⟨(some 73), .mv (.t 0), none, none, [], none⟩,
  ⟨(some 74), .len (.t 73), none, none, [], none⟩,
  ⟨(some 75), .bin .geq (.t 74) (.k (.int .i64 2)), none, none, [], none⟩,
  ⟨(some 76), .mv (.t 75), none, none, [], none⟩,
  ⟨(some 77), .mv (.t 0), (some (76, true)), none, [], none⟩,
  ⟨(some 78), .len (.t 77), (some (76, true)), none, [], none⟩,
  ⟨(some 79), .bin .leq (.t 78) (.k (.int .i64 8)), (some (76, true)), none, [], none⟩,
  ⟨(some 80), .pick (.t 76) (.t 79) (.k (.bool false)), none, none, [], none⟩,
  ⟨(some 2), .mv (.t 80), none, none, [], none⟩]
def ac_ref09_Kids_40 : AC := .reg l_ref09_Kids_40
def ac_ref09_Kids_41 : AC := .seq ac_ref09_Kids_40 .ret
def ac_ref09_Kids_42 : AC := .seq ac_ref09_Kids_39 ac_ref09_Kids_41
def ac_ref09_Kids_43 : AC := .seq ac_ref09_Kids_0 ac_ref09_Kids_42
def ac_ref09_Kids : AC := ac_ref09_Kids_43
theorem comp_ref09_Kids : compF Try.prog [] (drawR Try.prog [] Try.f39.ntmps) [([0, 3], 0), ([0, 3, 4], 0)] 1 Try.f39 = some (ac_ref09_Kids, [.t 2]) := by kernel_rfl
def U_ref09_Kids := (And.intro (And.intro (And.intro (And.intro (And.intro (And.intro @ac_ref09_Kids.eq_1 (@mR _ _ ac_ref09_Kids_0.eq_1)) (And.intro (@mR _ _ ac_ref09_Kids_1.eq_1) (@mR _ _ ac_ref09_Kids_2.eq_1))) (And.intro (And.intro (@mU _ _ ac_ref09_Kids_3.eq_1) (@mU _ _ ac_ref09_Kids_4.eq_1)) (And.intro (@mR _ _ ac_ref09_Kids_5.eq_1) (@mR _ _ ac_ref09_Kids_6.eq_1)))) (And.intro (And.intro (And.intro (@mU _ _ ac_ref09_Kids_7.eq_1) (@mU _ _ ac_ref09_Kids_8.eq_1)) (And.intro (@mU _ _ ac_ref09_Kids_9.eq_1) (@mD _ _ _ ac_ref09_Kids_10.eq_1))) (And.intro (And.intro (@mR _ _ ac_ref09_Kids_11.eq_1) (@mU _ _ ac_ref09_Kids_12.eq_1)) (@mU _ _ ac_ref09_Kids_13.eq_1)))) (And.intro (And.intro (And.intro (And.intro (@mU _ _ ac_ref09_Kids_14.eq_1) (@mR _ _ ac_ref09_Kids_15.eq_1)) (And.intro (@mR _ _ ac_ref09_Kids_16.eq_1) (@mU _ _ ac_ref09_Kids_17.eq_1))) (And.intro (And.intro (@mU _ _ ac_ref09_Kids_18.eq_1) (@mD _ _ _ ac_ref09_Kids_19.eq_1)) (And.intro (@mR _ _ ac_ref09_Kids_20.eq_1) (@mU _ _ ac_ref09_Kids_21.eq_1)))) (And.intro (And.intro (And.intro (@mU _ _ ac_ref09_Kids_22.eq_1) (@mU _ _ ac_ref09_Kids_23.eq_1)) (And.intro (@mU _ _ ac_ref09_Kids_24.eq_1) (@mR _ _ ac_ref09_Kids_25.eq_1))) (And.intro (And.intro (@mU _ _ ac_ref09_Kids_26.eq_1) (@mU _ _ ac_ref09_Kids_27.eq_1)) (@mU _ _ ac_ref09_Kids_28.eq_1))))) (And.intro (And.intro (And.intro (And.intro (And.intro (@mU _ _ ac_ref09_Kids_29.eq_1) (@mU _ _ ac_ref09_Kids_30.eq_1)) (And.intro (@mU _ _ ac_ref09_Kids_31.eq_1) (@mU _ _ ac_ref09_Kids_32.eq_1))) (And.intro (And.intro (@mU _ _ ac_ref09_Kids_33.eq_1) (@mR _ _ ac_ref09_Kids_34.eq_1)) (And.intro (@mU _ _ ac_ref09_Kids_35.eq_1) (@mU _ _ ac_ref09_Kids_36.eq_1)))) (And.intro (And.intro (And.intro (@mU _ _ ac_ref09_Kids_37.eq_1) (@mU _ _ ac_ref09_Kids_38.eq_1)) (And.intro (@mU _ _ ac_ref09_Kids_39.eq_1) (@mR _ _ ac_ref09_Kids_40.eq_1))) (And.intro (And.intro (@mU _ _ ac_ref09_Kids_41.eq_1) (@mU _ _ ac_ref09_Kids_42.eq_1)) (@mU _ _ ac_ref09_Kids_43.eq_1)))) (And.intro (And.intro (And.intro (And.intro @l_ref09_Kids_0.eq_1 @l_ref09_Kids_1.eq_1) (And.intro @l_ref09_Kids_2.eq_1 @l_ref09_Kids_5.eq_1)) (And.intro (And.intro @l_ref09_Kids_6.eq_1 @l_ref09_Kids_10.eq_1) @l_ref09_Kids_11.eq_1)) (And.intro (And.intro (And.intro @l_ref09_Kids_15.eq_1 @l_ref09_Kids_16.eq_1) (And.intro @l_ref09_Kids_19.eq_1 @l_ref09_Kids_20.eq_1)) (And.intro (And.intro @l_ref09_Kids_25.eq_1 @l_ref09_Kids_34.eq_1) @l_ref09_Kids_40.eq_1)))))

/- slices.Backward[[]scoria/api.Kid,scoria/api.Kid] -/
def l_slices_Backward_api_Kid_0 : List AOp := [⟨(some 1), .box (.t 0), none, none, [], none⟩,
  ⟨(some 2), .mv (.k .nilf), none, none, [], none⟩]
def ac_slices_Backward_api_Kid_0 : AC := .reg l_slices_Backward_api_Kid_0
def l_slices_Backward_api_Kid_1 : List AOp := [⟨(some 3), .mkfn (.func 51) [] [(.t 1)], none, none, [], none⟩,
  ⟨(some 2), .mv (.t 3), none, none, [], none⟩]
def ac_slices_Backward_api_Kid_1 : AC := .reg l_slices_Backward_api_Kid_1
def ac_slices_Backward_api_Kid_2 : AC := .seq ac_slices_Backward_api_Kid_1 .ret
def ac_slices_Backward_api_Kid_3 : AC := .seq ac_slices_Backward_api_Kid_0 ac_slices_Backward_api_Kid_2
def ac_slices_Backward_api_Kid : AC := ac_slices_Backward_api_Kid_3
theorem comp_slices_Backward_api_Kid : compF Try.prog [] (drawR Try.prog [] Try.f40.ntmps) [] 1 Try.f40 = some (ac_slices_Backward_api_Kid, [.t 2]) := by kernel_rfl
def U_slices_Backward_api_Kid := (And.intro (And.intro (And.intro @ac_slices_Backward_api_Kid.eq_1 (@mR _ _ ac_slices_Backward_api_Kid_0.eq_1)) (And.intro (@mR _ _ ac_slices_Backward_api_Kid_1.eq_1) (@mU _ _ ac_slices_Backward_api_Kid_2.eq_1))) (And.intro (And.intro (@mU _ _ ac_slices_Backward_api_Kid_3.eq_1) @l_slices_Backward_api_Kid_0.eq_1) @l_slices_Backward_api_Kid_1.eq_1))

/- scoria/ext.Check -/
def l_ext_Check_0 : List AOp := [⟨(some 2), .mv (.k (.bool false)), none, none, [], none⟩]
def ac_ext_Check_0 : AC := .reg l_ext_Check_0
def l_ext_Check_1 : List AOp := [⟨(some 5), .mv (.t 0), none, none, [], none⟩,
  ⟨(some 6), .len (.t 5), none, none, [], none⟩,
  ⟨(some 7), .mv (.k (.int .i64 0)), none, none, [], none⟩]
def ac_ext_Check_1 : AC := .reg l_ext_Check_1
def l_ext_Check_2 : List AOp := [⟨(some 8), .bin .lss (.t 7) (.t 6), none, none, [], none⟩]
def ac_ext_Check_2 : AC := .reg l_ext_Check_2
def ac_ext_Check_3 : AC := .cond (.t 8) .skip (.exit 0)
def l_ext_Check_4 : List AOp := [⟨(some 9), .mv (.t 7), none, none, [], none⟩,
  ⟨(some 10), .isl 4 (.t 5) (.t 7), none, none, [], none⟩,
  ⟨(some 11), .load (some 4) (.t 10), none, none, [], none⟩,
  ⟨(some 4), .alloc [(.int .i64 0), (.int .i64 0), (.int .i64 0), (.int .i64 0)], none, none, [], none⟩,
  ⟨(some 3), .mv (.t 9), none, none, [], none⟩,
  ⟨none, .store 4 (.t 4) (.t 11), none, none, [], none⟩]
def ac_ext_Check_4 : AC := .reg l_ext_Check_4
def l_ext_Check_5 : List AOp := [⟨(some 12), .load (some 4) (.t 4), none, none, [], none⟩,
  ⟨(some 13), .call false 52 [(.t 12)], none, none, [], none⟩,
  ⟨(some 14), .un .not (.t 13), none, none, [], none⟩,
  ⟨(some 15), .mv (.t 14), none, none, [], none⟩,
  ⟨(some 16), .mv (.t 3), (some (15, false)), none, [], none⟩,
  ⟨(some 17), .bin .gtr (.t 16) (.k (.int .i64 0)), (some (15, false)), none, [], none⟩,
  ⟨(some 18), .mv (.t 17), (some (15, false)), none, [], none⟩,
  ⟨(some 19), .mv (.t 0), (some (18, true)), none, [], none⟩,
  ⟨(some 20), .mv (.t 3), (some (18, true)), none, [], none⟩,
  ⟨(some 21), .bin .sub (.t 20) (.k (.int .i64 1)), (some (18, true)), none, [], none⟩,
  ⟨(some 22), .isl 4 (.t 19) (.t 21), (some (18, true)), none, [], none⟩,
  ⟨(some 23), .load (some 4) (.t 22), (some (18, true)), none, [], none⟩,
  ⟨(some 24), .call false 53 [(.t 23)], (some (18, true)), none, [], none⟩,
  ⟨(some 25), .faddr 0 (.t 4), (some (18, true)), none, [], none⟩,
  ⟨(some 26), .load none (.t 25), (some (18, true)), none, [], none⟩,
  ⟨(some 27), .bin .gtr (.t 24) (.t 26), (some (18, true)), none, [], none⟩,
  ⟨(some 28), .mv (.t 27), (some (18, true)), none, [], none⟩,
  ⟨(some 29), .mv (.t 0), (some (28, false)), none, [], none⟩,
  ⟨(some 30), .mv (.t 3), (some (28, false)), none, [], none⟩,
  ⟨(some 31), .bin .sub (.t 30) (.k (.int .i64 1)), (some (28, false)), none, [], none⟩,
  ⟨(some 32), .isl 4 (.t 29) (.t 31), (some (28, false)), none, [], none⟩,
  ⟨(some 33), .load (some 4) (.t 32), (some (28, false)), none, [], none⟩,
  ⟨(some 34), .load (some 4) (.t 4), (some (28, false)), none, [], none⟩,
  ⟨(some 35), .call false 54 [(.t 33), (.t 34)], (some (28, false)), none, [], none⟩,
  ⟨(some 36), .pick (.t 28) (.k (.bool true)) (.t 35), (some (18, true)), none, [], none⟩,
  ⟨(some 37), .pick (.t 18) (.t 36) (.k (.bool false)), (some (15, false)), none, [], none⟩,
  ⟨(some 38), .pick (.t 15) (.k (.bool true)) (.t 37), none, none, [], none⟩]
def ac_ext_Check_5 : AC := .dreg 0 l_ext_Check_5
def l_ext_Check_6 : List AOp := [⟨(some 2), .mv (.k (.bool false)), none, none, [], none⟩]
def ac_ext_Check_6 : AC := .reg l_ext_Check_6
def ac_ext_Check_7 : AC := .seq ac_ext_Check_6 .ret
def ac_ext_Check_8 : AC := .cond (.t 38) ac_ext_Check_7 .skip
def ac_ext_Check_9 : AC := .seq ac_ext_Check_5 ac_ext_Check_8
def ac_ext_Check_10 : AC := .seq ac_ext_Check_4 ac_ext_Check_9
def ac_ext_Check_11 : AC := .block 1 ac_ext_Check_10
def l_ext_Check_12 : List AOp := [⟨(some 39), .bin .add (.t 7) (.k (.int .i64 1)), none, none, [], none⟩,
  ⟨(some 7), .mv (.t 39), none, none, [], none⟩]
def ac_ext_Check_12 : AC := .reg l_ext_Check_12
def ac_ext_Check_13 : AC := .seq ac_ext_Check_11 ac_ext_Check_12
def ac_ext_Check_14 : AC := .seq ac_ext_Check_3 ac_ext_Check_13
def ac_ext_Check_15 : AC := .seq ac_ext_Check_2 ac_ext_Check_14
def ac_ext_Check_16 : AC := .loop [0, 5, 6, 7] 0 ac_ext_Check_15
def ac_ext_Check_17 : AC := .block 0 ac_ext_Check_16
def ac_ext_Check_18 : AC := .seq ac_ext_Check_1 ac_ext_Check_17
def l_ext_Check_19 : List AOp := [⟨(some 2), .mv (.k (.bool true)), none, none, [], none⟩]
def ac_ext_Check_19 : AC := .reg l_ext_Check_19
def ac_ext_Check_20 : AC := .seq ac_ext_Check_19 .ret
def ac_ext_Check_21 : AC := .seq ac_ext_Check_18 ac_ext_Check_20
def ac_ext_Check_22 : AC := .seq ac_ext_Check_0 ac_ext_Check_21
def ac_ext_Check : AC := ac_ext_Check_22
theorem comp_ext_Check : compF Try.prog [] (drawR Try.prog [] Try.f41.ntmps) [([0, 5, 6, 7], 0)] 1 Try.f41 = some (ac_ext_Check, [.t 2]) := by kernel_rfl
def U_ext_Check := (And.intro (And.intro (And.intro (And.intro (And.intro @ac_ext_Check.eq_1 (@mR _ _ ac_ext_Check_0.eq_1)) (And.intro (@mR _ _ ac_ext_Check_1.eq_1) (@mR _ _ ac_ext_Check_2.eq_1))) (And.intro (And.intro (@mU _ _ ac_ext_Check_3.eq_1) (@mR _ _ ac_ext_Check_4.eq_1)) (And.intro (@mD _ _ _ ac_ext_Check_5.eq_1) (@mR _ _ ac_ext_Check_6.eq_1)))) (And.intro (And.intro (And.intro (@mU _ _ ac_ext_Check_7.eq_1) (@mU _ _ ac_ext_Check_8.eq_1)) (And.intro (@mU _ _ ac_ext_Check_9.eq_1) (@mU _ _ ac_ext_Check_10.eq_1))) (And.intro (And.intro (@mU _ _ ac_ext_Check_11.eq_1) (@mR _ _ ac_ext_Check_12.eq_1)) (And.intro (@mU _ _ ac_ext_Check_13.eq_1) (@mU _ _ ac_ext_Check_14.eq_1))))) (And.intro (And.intro (And.intro (And.intro (@mU _ _ ac_ext_Check_15.eq_1) (@mU _ _ ac_ext_Check_16.eq_1)) (And.intro (@mU _ _ ac_ext_Check_17.eq_1) (@mU _ _ ac_ext_Check_18.eq_1))) (And.intro (And.intro (@mR _ _ ac_ext_Check_19.eq_1) (@mU _ _ ac_ext_Check_20.eq_1)) (And.intro (@mU _ _ ac_ext_Check_21.eq_1) (@mU _ _ ac_ext_Check_22.eq_1)))) (And.intro (And.intro (And.intro @l_ext_Check_0.eq_1 @l_ext_Check_1.eq_1) (And.intro @l_ext_Check_2.eq_1 @l_ext_Check_4.eq_1)) (And.intro (And.intro @l_ext_Check_5.eq_1 @l_ext_Check_6.eq_1) (And.intro @l_ext_Check_12.eq_1 @l_ext_Check_19.eq_1)))))

/- slices.ContainsFunc[[]scoria/api.Ext,scoria/api.Ext] -/
def l_slices_ContainsFunc_api_Ext_0 : List AOp := [⟨(some 4), .mv (.k (.bool false)), none, none, [], none⟩]
def ac_slices_ContainsFunc_api_Ext_0 : AC := .reg l_slices_ContainsFunc_api_Ext_0
def l_slices_ContainsFunc_api_Ext_1 : List AOp := [⟨(some 5), .mv (.t 0), none, none, [], none⟩,
  ⟨(some 6), .mv (.t 1), none, none, [], none⟩,
  ⟨(some 7), .call false 55 [(.t 5), (.t 6)], none, none, [], none⟩,
  ⟨(some 8), .bin .geq (.t 7) (.k (.int .i64 0)), none, none, [], none⟩,
  ⟨(some 4), .mv (.t 8), none, none, [], none⟩]
def ac_slices_ContainsFunc_api_Ext_1 : AC := .reg l_slices_ContainsFunc_api_Ext_1
def ac_slices_ContainsFunc_api_Ext_2 : AC := .seq ac_slices_ContainsFunc_api_Ext_1 .ret
def ac_slices_ContainsFunc_api_Ext_3 : AC := .seq ac_slices_ContainsFunc_api_Ext_0 ac_slices_ContainsFunc_api_Ext_2
def ac_slices_ContainsFunc_api_Ext : AC := ac_slices_ContainsFunc_api_Ext_3
theorem comp_slices_ContainsFunc_api_Ext : compF Try.prog [] (drawR Try.prog [] Try.f42.ntmps) [] 2 Try.f42 = some (ac_slices_ContainsFunc_api_Ext, [.t 4]) := by kernel_rfl
def U_slices_ContainsFunc_api_Ext := (And.intro (And.intro (And.intro @ac_slices_ContainsFunc_api_Ext.eq_1 (@mR _ _ ac_slices_ContainsFunc_api_Ext_0.eq_1)) (And.intro (@mR _ _ ac_slices_ContainsFunc_api_Ext_1.eq_1) (@mU _ _ ac_slices_ContainsFunc_api_Ext_2.eq_1))) (And.intro (And.intro (@mU _ _ ac_slices_ContainsFunc_api_Ext_3.eq_1) @l_slices_ContainsFunc_api_Ext_0.eq_1) @l_slices_ContainsFunc_api_Ext_1.eq_1))

/- scoria/leaf.extents$1 -/
def l_leaf_extents_c1_0 : List AOp := [⟨(some 1), .box (.t 0), none, none, [], none⟩,
  ⟨(some 2), .mv (.k (.bool false)), none, none, [], none⟩]
def ac_leaf_extents_c1_0 : AC := .reg l_leaf_extents_c1_0
def l_leaf_extents_c1_1 : List AOp := [⟨(some 3), .faddr 3 (.t 1), none, none, [], none⟩,
  ⟨(some 4), .load none (.t 3), none, none, [], none⟩,
  ⟨(some 5), .bin .geq (.t 4) (.k (.int .i64 2048)), none, none, [], none⟩,
  ⟨(some 2), .mv (.t 5), none, none, [], none⟩]
def ac_leaf_extents_c1_1 : AC := .reg l_leaf_extents_c1_1
def ac_leaf_extents_c1_2 : AC := .seq ac_leaf_extents_c1_1 .ret
def ac_leaf_extents_c1_3 : AC := .seq ac_leaf_extents_c1_0 ac_leaf_extents_c1_2
def ac_leaf_extents_c1 : AC := ac_leaf_extents_c1_3
theorem comp_leaf_extents_c1 : compF Try.prog [] (drawR Try.prog [] Try.f43.ntmps) [] 1 Try.f43 = some (ac_leaf_extents_c1, [.t 2]) := by kernel_rfl
def U_leaf_extents_c1 := (And.intro (And.intro (And.intro @ac_leaf_extents_c1.eq_1 (@mR _ _ ac_leaf_extents_c1_0.eq_1)) (And.intro (@mR _ _ ac_leaf_extents_c1_1.eq_1) (@mU _ _ ac_leaf_extents_c1_2.eq_1))) (And.intro (And.intro (@mU _ _ ac_leaf_extents_c1_3.eq_1) @l_leaf_extents_c1_0.eq_1) @l_leaf_extents_c1_1.eq_1))

/- scoria/field.Row -/
def l_field_Row_0 : List AOp := [⟨(some 4), .mv (.k (.str [])), none, none, [], none⟩,
  ⟨(some 5), .mv (.k (.int .i64 0)), none, none, [], none⟩]
def ac_field_Row_0 : AC := .reg l_field_Row_0
def l_field_Row_1 : List AOp := [⟨(some 9), .mv (.t 0), none, none, [], none⟩,
  ⟨(some 10), .len (.t 9), none, none, [], none⟩,
  ⟨(some 11), .mv (.t 1), none, none, [], none⟩,
  ⟨(some 12), .len (.t 11), none, none, [], none⟩,
  ⟨(some 13), .bin .neq (.t 10) (.t 12), none, none, [], none⟩,
  ⟨(some 14), .mv (.t 13), none, none, [], none⟩,
  ⟨(some 15), .mv (.t 1), (some (14, false)), none, [], none⟩,
  ⟨(some 16), .call false 56 [(.t 15), (.k (.fn (.func 57) [] []))], (some (14, false)), none, [], none⟩,
  ⟨(some 17), .pick (.t 14) (.k (.bool true)) (.t 16), none, none, [], none⟩]
def ac_field_Row_1 : AC := .reg l_field_Row_1
def l_field_Row_2 : List AOp := [⟨(some 4), .mv (.k (.str [])), none, none, [], none⟩,
  ⟨(some 5), .mv (.k (.int .i64 1)), none, none, [], none⟩]
def ac_field_Row_2 : AC := .reg l_field_Row_2
def ac_field_Row_3 : AC := .seq ac_field_Row_2 .ret
def ac_field_Row_4 : AC := .cond (.t 17) ac_field_Row_3 .skip
def ac_field_Row_5 : AC := .seq ac_field_Row_1 ac_field_Row_4
def l_field_Row_6 : List AOp := [⟨(some 6), .balloc 98 5, none, none, [], none⟩]
def ac_field_Row_6 : AC := .reg l_field_Row_6
def l_field_Row_7 : List AOp := [⟨(some 18), .mv (.t 0), none, none, [], none⟩,
  ⟨(some 19), .len (.t 18), none, none, [], none⟩,
  ⟨(some 20), .mv (.k (.int .i64 0)), none, none, [], none⟩]
def ac_field_Row_7 : AC := .reg l_field_Row_7
def l_field_Row_8 : List AOp := [⟨(some 21), .bin .lss (.t 20) (.t 19), none, none, [], none⟩]
def ac_field_Row_8 : AC := .reg l_field_Row_8
def ac_field_Row_9 : AC := .cond (.t 21) .skip (.exit 0)
def l_field_Row_10 : List AOp := [⟨(some 22), .mv (.t 20), none, none, [], none⟩,
  ⟨(some 23), .isl 1 (.t 18) (.t 20), none, none, [], none⟩,
  ⟨(some 24), .load none (.t 23), none, none, [], none⟩,
  ⟨(some 7), .mv (.t 22), none, none, [], none⟩,
  ⟨(some 8), .mv (.t 24), none, none, [], none⟩]
def ac_field_Row_10 : AC := .reg l_field_Row_10
def l_field_Row_11 : List AOp := [⟨(some 25), .mv (.t 8), none, none, [], none⟩,
  ⟨(some 26), .mv (.t 1), none, none, [], none⟩,
  ⟨(some 27), .mv (.t 7), none, none, [], none⟩,
  ⟨(some 28), .isl 1 (.t 26) (.t 27), none, none, [], none⟩,
  ⟨(some 29), .load none (.t 28), none, none, [], none⟩,
  ⟨(some 30), .call false 58 [(.t 25), (.t 29)], none, none, [], none⟩,
  ⟨(some 31), .un .not (.t 30), none, none, [], none⟩]
def ac_field_Row_11 : AC := .reg l_field_Row_11
def l_field_Row_12 : List AOp := [⟨(some 4), .mv (.k (.str [])), none, none, [], none⟩,
  ⟨(some 5), .mv (.k (.int .i64 2)), none, none, [], none⟩]
def ac_field_Row_12 : AC := .reg l_field_Row_12
def ac_field_Row_13 : AC := .seq ac_field_Row_12 .ret
def ac_field_Row_14 : AC := .cond (.t 31) ac_field_Row_13 .skip
def ac_field_Row_15 : AC := .seq ac_field_Row_11 ac_field_Row_14
def l_field_Row_16 : List AOp := [⟨(some 32), .mv (.t 8), none, none, [], none⟩,
  ⟨(some 33), .mv (.t 1), none, none, [], none⟩,
  ⟨(some 34), .mv (.t 7), none, none, [], none⟩,
  ⟨(some 35), .isl 1 (.t 33) (.t 34), none, none, [], none⟩,
  ⟨(some 36), .load none (.t 35), none, none, [], none⟩,
  ⟨(some 37), .call false 60 [(.t 32), (.t 36)], none, none, [], none⟩,
  ⟨(some 38), .icall 59 [(.t 6), (.t 37)], none, none, [], none⟩]
def ac_field_Row_16 : AC := .reg l_field_Row_16
def ac_field_Row_17 : AC := .seq ac_field_Row_15 ac_field_Row_16
def ac_field_Row_18 : AC := .seq ac_field_Row_10 ac_field_Row_17
def ac_field_Row_19 : AC := .block 1 ac_field_Row_18
def l_field_Row_20 : List AOp := [⟨(some 39), .bin .add (.t 20) (.k (.int .i64 1)), none, none, [], none⟩,
  ⟨(some 20), .mv (.t 39), none, none, [], none⟩]
def ac_field_Row_20 : AC := .reg l_field_Row_20
def ac_field_Row_21 : AC := .seq ac_field_Row_19 ac_field_Row_20
def ac_field_Row_22 : AC := .seq ac_field_Row_9 ac_field_Row_21
def ac_field_Row_23 : AC := .seq ac_field_Row_8 ac_field_Row_22
def ac_field_Row_24 : AC := .loop [1, 6, 18, 19, 20] 2 ac_field_Row_23
def ac_field_Row_25 : AC := .block 0 ac_field_Row_24
def ac_field_Row_26 : AC := .seq ac_field_Row_7 ac_field_Row_25
def l_field_Row_27 : List AOp := [⟨(some 40), .icall 61 [(.t 6)], none, none, [], none⟩,
  ⟨(some 4), .mv (.t 40), none, none, [], none⟩,
  ⟨(some 5), .mv (.k (.int .i64 0)), none, none, [], none⟩]
def ac_field_Row_27 : AC := .reg l_field_Row_27
def ac_field_Row_28 : AC := .seq ac_field_Row_27 .ret
def ac_field_Row_29 : AC := .seq ac_field_Row_26 ac_field_Row_28
def ac_field_Row_30 : AC := .seq ac_field_Row_6 ac_field_Row_29
def ac_field_Row_31 : AC := .seq ac_field_Row_5 ac_field_Row_30
def ac_field_Row_32 : AC := .seq ac_field_Row_0 ac_field_Row_31
def ac_field_Row : AC := ac_field_Row_32
theorem comp_field_Row : compF Try.prog [6, 1000059, 1000061] (drawR Try.prog [6, 1000059, 1000061] Try.f44.ntmps) [([1, 6, 18, 19, 20], 2)] 2 Try.f44 = some (ac_field_Row, [.t 4, .t 5]) := by kernel_rfl
def U_field_Row := (And.intro (And.intro (And.intro (And.intro (And.intro (And.intro @ac_field_Row.eq_1 (@mR _ _ ac_field_Row_0.eq_1)) (@mR _ _ ac_field_Row_1.eq_1)) (And.intro (And.intro (@mR _ _ ac_field_Row_2.eq_1) (@mU _ _ ac_field_Row_3.eq_1)) (@mU _ _ ac_field_Row_4.eq_1))) (And.intro (And.intro (And.intro (@mU _ _ ac_field_Row_5.eq_1) (@mR _ _ ac_field_Row_6.eq_1)) (@mR _ _ ac_field_Row_7.eq_1)) (And.intro (And.intro (@mR _ _ ac_field_Row_8.eq_1) (@mU _ _ ac_field_Row_9.eq_1)) (@mR _ _ ac_field_Row_10.eq_1)))) (And.intro (And.intro (And.intro (And.intro (@mR _ _ ac_field_Row_11.eq_1) (@mR _ _ ac_field_Row_12.eq_1)) (@mU _ _ ac_field_Row_13.eq_1)) (And.intro (And.intro (@mU _ _ ac_field_Row_14.eq_1) (@mU _ _ ac_field_Row_15.eq_1)) (@mR _ _ ac_field_Row_16.eq_1))) (And.intro (And.intro (And.intro (@mU _ _ ac_field_Row_17.eq_1) (@mU _ _ ac_field_Row_18.eq_1)) (@mU _ _ ac_field_Row_19.eq_1)) (And.intro (@mR _ _ ac_field_Row_20.eq_1) (@mU _ _ ac_field_Row_21.eq_1))))) (And.intro (And.intro (And.intro (And.intro (And.intro (@mU _ _ ac_field_Row_22.eq_1) (@mU _ _ ac_field_Row_23.eq_1)) (@mU _ _ ac_field_Row_24.eq_1)) (And.intro (And.intro (@mU _ _ ac_field_Row_25.eq_1) (@mU _ _ ac_field_Row_26.eq_1)) (@mR _ _ ac_field_Row_27.eq_1))) (And.intro (And.intro (And.intro (@mU _ _ ac_field_Row_28.eq_1) (@mU _ _ ac_field_Row_29.eq_1)) (@mU _ _ ac_field_Row_30.eq_1)) (And.intro (And.intro (@mU _ _ ac_field_Row_31.eq_1) (@mU _ _ ac_field_Row_32.eq_1)) @l_field_Row_0.eq_1))) (And.intro (And.intro (And.intro (And.intro @l_field_Row_1.eq_1 @l_field_Row_2.eq_1) @l_field_Row_6.eq_1) (And.intro (And.intro @l_field_Row_7.eq_1 @l_field_Row_8.eq_1) @l_field_Row_10.eq_1)) (And.intro (And.intro (And.intro @l_field_Row_11.eq_1 @l_field_Row_12.eq_1) @l_field_Row_16.eq_1) (And.intro @l_field_Row_20.eq_1 @l_field_Row_27.eq_1)))))

/- scoria/scoriaref07.Check -/
def l_ref07_Check_0 : List AOp := [⟨(some 2), .mv (.k (.bool false)), none, none, [], none⟩]
def ac_ref07_Check_0 : AC := .reg l_ref07_Check_0
def l_ref07_Check_1 : List AOp := [⟨(some 3), .mv (.k (.int .i64 0)), none, none, [], none⟩]
def ac_ref07_Check_1 : AC := .reg l_ref07_Check_1
def l_ref07_Check_2 : List AOp := [⟨(some 4), .mv (.t 3), none, none, [], none⟩,
  ⟨(some 5), .mv (.t 0), none, none, [], none⟩,
  ⟨(some 6), .len (.t 5), none, none, [], none⟩,
  ⟨(some 7), .bin .lss (.t 4) (.t 6), none, none, [], none⟩]
def ac_ref07_Check_2 : AC := .reg l_ref07_Check_2
def ac_ref07_Check_3 : AC := .cond (.t 7) .skip (.exit 0)
def ac_ref07_Check_4 : AC := .seq ac_ref07_Check_2 ac_ref07_Check_3
def l_ref07_Check_5 : List AOp := [⟨(some 10), .mv (.t 0), none, none, [], none⟩,
  ⟨(some 11), .mv (.t 3), none, none, [], none⟩,
  ⟨(some 12), .isl 4 (.t 10) (.t 11), none, none, [], none⟩,
  ⟨(some 13), .load (some 4) (.t 12), none, none, [], none⟩,
  ⟨(some 14), .call false 62 [(.t 13)], none, none, [], none⟩,
  ⟨(some 15), .un .not (.t 14), none, none, [], none⟩]
def ac_ref07_Check_5 : AC := .reg l_ref07_Check_5
def l_ref07_Check_6 : List AOp := [⟨(some 2), .mv (.k (.bool false)), none, none, [], none⟩]
def ac_ref07_Check_6 : AC := .reg l_ref07_Check_6
def ac_ref07_Check_7 : AC := .seq ac_ref07_Check_6 .ret
def ac_ref07_Check_8 : AC := .cond (.t 15) ac_ref07_Check_7 .skip
def ac_ref07_Check_9 : AC := .seq ac_ref07_Check_5 ac_ref07_Check_8
def l_ref07_Check_10 : List AOp := [⟨(some 16), .mv (.t 3), none, none, [], none⟩,
  ⟨(some 17), .bin .gtr (.t 16) (.k (.int .i64 0)), none, none, [], none⟩,
  ⟨(some 18), .mv (.t 17), none, none, [], none⟩,
  ⟨(some 19), .mv (.t 0), (some (18, true)), none, [], none⟩,
  ⟨(some 20), .mv (.t 3), (some (18, true)), none, [], none⟩,
  ⟨(some 21), .isl 4 (.t 19) (.t 20), (some (18, true)), none, [], none⟩,
  ⟨(some 22), .faddr 0 (.t 21), (some (18, true)), none, [], none⟩,
  ⟨(some 23), .load none (.t 22), (some (18, true)), none, [], none⟩,
  ⟨(some 24), .mv (.t 0), (some (18, true)), none, [], none⟩,
  ⟨(some 25), .mv (.t 3), (some (18, true)), none, [], none⟩,
  ⟨(some 26), .bin .sub (.t 25) (.k (.int .i64 1)), (some (18, true)), none, [], none⟩,
  ⟨(some 27), .isl 4 (.t 24) (.t 26), (some (18, true)), none, [], none⟩,
  ⟨(some 28), .faddr 0 (.t 27), (some (18, true)), none, [], none⟩,
  ⟨(some 29), .load none (.t 28), (some (18, true)), none, [], none⟩,
  ⟨(some 30), .mv (.t 0), (some (18, true)), none, [], none⟩,
  ⟨(some 31), .mv (.t 3), (some (18, true)), none, [], none⟩,
  ⟨(some 32), .bin .sub (.t 31) (.k (.int .i64 1)), (some (18, true)), none, [], none⟩,
  ⟨(some 33), .isl 4 (.t 30) (.t 32), (some (18, true)), none, [], none⟩,
  ⟨(some 34), .faddr 1 (.t 33), (some (18, true)), none, [], none⟩,
  ⟨(some 35), .load none (.t 34), (some (18, true)), none, [], none⟩,
  ⟨(some 36), .bin .add (.t 29) (.t 35), (some (18, true)), none, [], none⟩,
  ⟨(some 37), .bin .lss (.t 23) (.t 36), (some (18, true)), none, [], none⟩,
  ⟨(some 38), .mv (.t 37), (some (18, true)), none, [], none⟩,
  ⟨(some 39), .mv (.t 0), (some (38, false)), none, [], none⟩,
  ⟨(some 40), .mv (.t 3), (some (38, false)), none, [], none⟩,
  ⟨(some 41), .bin .sub (.t 40) (.k (.int .i64 1)), (some (38, false)), none, [], none⟩,
  ⟨(some 42), .isl 4 (.t 39) (.t 41), (some (38, false)), none, [], none⟩,
  ⟨(some 43), .load (some 4) (.t 42), (some (38, false)), none, [], none⟩,
  ⟨(some 44), .mv (.t 0), (some (38, false)), none, [], none⟩,
  ⟨(some 45), .mv (.t 3), (some (38, false)), none, [], none⟩,
  ⟨(some 46), .isl 4 (.t 44) (.t 45), (some (38, false)), none, [], none⟩,
  ⟨(some 47), .load (some 4) (.t 46), (some (38, false)), none, [], none⟩,
  ⟨(some 48), .call false 63 [(.t 43), (.t 47)], (some (38, false)), none, [], none⟩,
  ⟨(some 49), .pick (.t 38) (.k (.bool true)) (.t 48), (some (18, true)), none, [], none⟩,
  ⟨(some 50), .pick (.t 18) (.t 49) (.k (.bool false)), none, none, [], none⟩]
def ac_ref07_Check_10 : AC := .dreg 0 l_ref07_Check_10
def l_ref07_Check_11 : List AOp := [⟨(some 2), .mv (.k (.bool false)), none, none, [], none⟩]
def ac_ref07_Check_11 : AC := .reg l_ref07_Check_11
def ac_ref07_Check_12 : AC := .seq ac_ref07_Check_11 .ret
def ac_ref07_Check_13 : AC := .cond (.t 50) ac_ref07_Check_12 .skip
def ac_ref07_Check_14 : AC := .seq ac_ref07_Check_10 ac_ref07_Check_13
def ac_ref07_Check_15 : AC := .seq ac_ref07_Check_9 ac_ref07_Check_14
def ac_ref07_Check_16 : AC := .block 1 ac_ref07_Check_15
def l_ref07_Check_17 : List AOp := [⟨(some 8), .mv (.t 3), none, none, [], none⟩,
  ⟨(some 9), .bin .add (.t 8) (.k (.int .i64 1)), none, none, [], none⟩,
  ⟨(some 3), .mv (.t 9), none, none, [], none⟩]
def ac_ref07_Check_17 : AC := .reg l_ref07_Check_17
def ac_ref07_Check_18 : AC := .seq ac_ref07_Check_16 ac_ref07_Check_17
def ac_ref07_Check_19 : AC := .seq ac_ref07_Check_4 ac_ref07_Check_18
def ac_ref07_Check_20 : AC := .loop [0, 3] 0 ac_ref07_Check_19
def ac_ref07_Check_21 : AC := .block 0 ac_ref07_Check_20
def ac_ref07_Check_22 : AC := .seq ac_ref07_Check_1 ac_ref07_Check_21
def l_ref07_Check_23 : List AOp := [⟨(some 2), .mv (.k (.bool true)), none, none, [], none⟩]
def ac_ref07_Check_23 : AC := .reg l_ref07_Check_23
def ac_ref07_Check_24 : AC := .seq ac_ref07_Check_23 .ret
def ac_ref07_Check_25 : AC := .seq ac_ref07_Check_22 ac_ref07_Check_24
def ac_ref07_Check_26 : AC := .seq ac_ref07_Check_0 ac_ref07_Check_25
def ac_ref07_Check : AC := ac_ref07_Check_26
theorem comp_ref07_Check : compF Try.prog [] (drawR Try.prog [] Try.f45.ntmps) [([0, 3], 0)] 1 Try.f45 = some (ac_ref07_Check, [.t 2]) := by kernel_rfl
def U_ref07_Check := (And.intro (And.intro (And.intro (And.intro (And.intro (And.intro @ac_ref07_Check.eq_1 (@mR _ _ ac_ref07_Check_0.eq_1)) (@mR _ _ ac_ref07_Check_1.eq_1)) (And.intro (@mR _ _ ac_ref07_Check_2.eq_1) (@mU _ _ ac_ref07_Check_3.eq_1))) (And.intro (And.intro (And.intro (@mU _ _ ac_ref07_Check_4.eq_1) (@mR _ _ ac_ref07_Check_5.eq_1)) (@mR _ _ ac_ref07_Check_6.eq_1)) (And.intro (@mU _ _ ac_ref07_Check_7.eq_1) (@mU _ _ ac_ref07_Check_8.eq_1)))) (And.intro (And.intro (And.intro (And.intro (@mU _ _ ac_ref07_Check_9.eq_1) (@mD _ _ _ ac_ref07_Check_10.eq_1)) (@mR _ _ ac_ref07_Check_11.eq_1)) (And.intro (@mU _ _ ac_ref07_Check_12.eq_1) (@mU _ _ ac_ref07_Check_13.eq_1))) (And.intro (And.intro (@mU _ _ ac_ref07_Check_14.eq_1) (@mU _ _ ac_ref07_Check_15.eq_1)) (And.intro (@mU _ _ ac_ref07_Check_16.eq_1) (@mR _ _ ac_ref07_Check_17.eq_1))))) (And.intro (And.intro (And.intro (And.intro (And.intro (@mU _ _ ac_ref07_Check_18.eq_1) (@mU _ _ ac_ref07_Check_19.eq_1)) (@mU _ _ ac_ref07_Check_20.eq_1)) (And.intro (@mU _ _ ac_ref07_Check_21.eq_1) (@mU _ _ ac_ref07_Check_22.eq_1))) (And.intro (And.intro (@mR _ _ ac_ref07_Check_23.eq_1) (@mU _ _ ac_ref07_Check_24.eq_1)) (And.intro (@mU _ _ ac_ref07_Check_25.eq_1) (@mU _ _ ac_ref07_Check_26.eq_1)))) (And.intro (And.intro (And.intro (And.intro @l_ref07_Check_0.eq_1 @l_ref07_Check_1.eq_1) @l_ref07_Check_2.eq_1) (And.intro @l_ref07_Check_5.eq_1 @l_ref07_Check_6.eq_1)) (And.intro (And.intro @l_ref07_Check_10.eq_1 @l_ref07_Check_11.eq_1) (And.intro @l_ref07_Check_17.eq_1 @l_ref07_Check_23.eq_1)))))

/- scoria/scoriaref01.Put -/
def l_ref01_Put_0 : List AOp := [⟨(some 4), .mv (.k (.str [])), none, none, [], none⟩,
  ⟨(some 5), .mv (.k (.int .i64 0)), none, none, [], none⟩]
def ac_ref01_Put_0 : AC := .reg l_ref01_Put_0
def l_ref01_Put_1 : List AOp := [⟨(some 8), .mv (.t 1), none, none, [], none⟩,
  ⟨(some 9), .bin .lss (.t 8) (.k (.int .i64 1)), none, none, [], none⟩,
  ⟨(some 10), .mv (.t 9), none, none, [], none⟩,
  ⟨(some 11), .mv (.t 1), (some (10, false)), none, [], none⟩,
  ⟨(some 12), .bin .gtr (.t 11) (.k (.int .i64 8)), (some (10, false)), none, [], none⟩,
  ⟨(some 13), .pick (.t 10) (.k (.bool true)) (.t 12), none, none, [], none⟩]
def ac_ref01_Put_1 : AC := .reg l_ref01_Put_1
def l_ref01_Put_2 : List AOp := [⟨(some 4), .mv (.k (.str [])), none, none, [], none⟩,
  ⟨(some 5), .mv (.k (.int .i64 1)), none, none, [], none⟩]
def ac_ref01_Put_2 : AC := .reg l_ref01_Put_2
def ac_ref01_Put_3 : AC := .seq ac_ref01_Put_2 .ret
def ac_ref01_Put_4 : AC := .cond (.t 13) ac_ref01_Put_3 .skip
def ac_ref01_Put_5 : AC := .seq ac_ref01_Put_1 ac_ref01_Put_4
def l_ref01_Put_6 : List AOp := [⟨(some 15), .mv (.t 0), none, none, [], none⟩,
  ⟨(some 16), .mv (.t 1), none, none, [], none⟩,
  ⟨(some 17), .call false 64 [(.t 15), (.t 16)], none, none, [], none⟩,
  ⟨(some 14), .mv (.t 17), none, none, [], none⟩,
  ⟨(some 18), .ext 0 (.t 14), none, none, [], none⟩,
  ⟨(some 19), .ext 1 (.t 14), none, none, [], none⟩,
  ⟨(some 6), .mv (.t 18), none, none, [], none⟩,
  ⟨(some 7), .mv (.t 19), none, none, [], none⟩]
def ac_ref01_Put_6 : AC := .reg l_ref01_Put_6
def l_ref01_Put_7 : List AOp := [⟨(some 20), .mv (.t 7), none, none, [], none⟩,
  ⟨(some 21), .un .not (.t 20), none, none, [], none⟩]
def ac_ref01_Put_7 : AC := .reg l_ref01_Put_7
def l_ref01_Put_8 : List AOp := [⟨(some 4), .mv (.k (.str [])), none, none, [], none⟩,
  ⟨(some 5), .mv (.k (.int .i64 2)), none, none, [], none⟩]
def ac_ref01_Put_8 : AC := .reg l_ref01_Put_8
def ac_ref01_Put_9 : AC := .seq ac_ref01_Put_8 .ret
def ac_ref01_Put_10 : AC := .cond (.t 21) ac_ref01_Put_9 .skip
def ac_ref01_Put_11 : AC := .seq ac_ref01_Put_7 ac_ref01_Put_10
def l_ref01_Put_12 : List AOp := [⟨(some 22), .mv (.t 6), none, none, [], none⟩,
  ⟨(some 4), .mv (.t 22), none, none, [], none⟩,
  ⟨(some 5), .mv (.k (.int .i64 0)), none, none, [], none⟩]
def ac_ref01_Put_12 : AC := .reg l_ref01_Put_12
def ac_ref01_Put_13 : AC := .seq ac_ref01_Put_12 .ret
def ac_ref01_Put_14 : AC := .seq ac_ref01_Put_11 ac_ref01_Put_13
def ac_ref01_Put_15 : AC := .seq ac_ref01_Put_6 ac_ref01_Put_14
def ac_ref01_Put_16 : AC := .seq ac_ref01_Put_5 ac_ref01_Put_15
def ac_ref01_Put_17 : AC := .seq ac_ref01_Put_0 ac_ref01_Put_16
def ac_ref01_Put : AC := ac_ref01_Put_17
theorem comp_ref01_Put : compF Try.prog [] (drawR Try.prog [] Try.f46.ntmps) [] 2 Try.f46 = some (ac_ref01_Put, [.t 4, .t 5]) := by kernel_rfl
def U_ref01_Put := (And.intro (And.intro (And.intro (And.intro (And.intro @ac_ref01_Put.eq_1 (@mR _ _ ac_ref01_Put_0.eq_1)) (And.intro (@mR _ _ ac_ref01_Put_1.eq_1) (@mR _ _ ac_ref01_Put_2.eq_1))) (And.intro (And.intro (@mU _ _ ac_ref01_Put_3.eq_1) (@mU _ _ ac_ref01_Put_4.eq_1)) (@mU _ _ ac_ref01_Put_5.eq_1))) (And.intro (And.intro (And.intro (@mR _ _ ac_ref01_Put_6.eq_1) (@mR _ _ ac_ref01_Put_7.eq_1)) (@mR _ _ ac_ref01_Put_8.eq_1)) (And.intro (And.intro (@mU _ _ ac_ref01_Put_9.eq_1) (@mU _ _ ac_ref01_Put_10.eq_1)) (@mU _ _ ac_ref01_Put_11.eq_1)))) (And.intro (And.intro (And.intro (And.intro (@mR _ _ ac_ref01_Put_12.eq_1) (@mU _ _ ac_ref01_Put_13.eq_1)) (And.intro (@mU _ _ ac_ref01_Put_14.eq_1) (@mU _ _ ac_ref01_Put_15.eq_1))) (And.intro (And.intro (@mU _ _ ac_ref01_Put_16.eq_1) (@mU _ _ ac_ref01_Put_17.eq_1)) @l_ref01_Put_0.eq_1)) (And.intro (And.intro (And.intro @l_ref01_Put_1.eq_1 @l_ref01_Put_2.eq_1) @l_ref01_Put_6.eq_1) (And.intro (And.intro @l_ref01_Put_7.eq_1 @l_ref01_Put_8.eq_1) @l_ref01_Put_12.eq_1))))

/- scoria/field.Take -/
def l_field_Take_0 : List AOp := [⟨(some 4), .nilown 1, none, none, [], none⟩,
  ⟨(some 5), .mv (.k (.str [])), none, none, [], none⟩,
  ⟨(some 6), .mv (.k (.int .i64 0)), none, none, [], none⟩]
def ac_field_Take_0 : AC := .reg l_field_Take_0
def l_field_Take_1 : List AOp := [⟨(some 12), .mv (.t 1), none, none, [], none⟩,
  ⟨(some 13), .call false 56 [(.t 12), (.k (.fn (.func 57) [] []))], none, none, [], none⟩]
def ac_field_Take_1 : AC := .reg l_field_Take_1
def l_field_Take_2 : List AOp := [⟨(some 4), .nilown 1, none, none, [], none⟩,
  ⟨(some 5), .mv (.k (.str [])), none, none, [], none⟩,
  ⟨(some 6), .mv (.k (.int .i64 1)), none, none, [], none⟩]
def ac_field_Take_2 : AC := .reg l_field_Take_2
def ac_field_Take_3 : AC := .seq ac_field_Take_2 .ret
def ac_field_Take_4 : AC := .cond (.t 13) ac_field_Take_3 .skip
def ac_field_Take_5 : AC := .seq ac_field_Take_1 ac_field_Take_4
def l_field_Take_6 : List AOp := [⟨(some 7), .mv (.k (.int .i64 0)), none, none, [], none⟩]
def ac_field_Take_6 : AC := .reg l_field_Take_6
def l_field_Take_7 : List AOp := [⟨(some 14), .mv (.t 1), none, none, [], none⟩,
  ⟨(some 15), .len (.t 14), none, none, [], none⟩,
  ⟨(some 16), .mv (.k (.int .i64 0)), none, none, [], none⟩]
def ac_field_Take_7 : AC := .reg l_field_Take_7
def l_field_Take_8 : List AOp := [⟨(some 17), .bin .lss (.t 16) (.t 15), none, none, [], none⟩]
def ac_field_Take_8 : AC := .reg l_field_Take_8
def ac_field_Take_9 : AC := .cond (.t 17) .skip (.exit 0)
def l_field_Take_10 : List AOp := [⟨(some 18), .isl 1 (.t 14) (.t 16), none, none, [], none⟩,
  ⟨(some 19), .load none (.t 18), none, none, [], none⟩,
  ⟨(some 9), .mv (.t 19), none, none, [], none⟩]
def ac_field_Take_10 : AC := .reg l_field_Take_10
def l_field_Take_11 : List AOp := [⟨(some 21), .mv (.t 0), none, none, [], none⟩,
  ⟨(some 22), .mv (.t 7), none, none, [], none⟩,
  ⟨(some 23), .mv (.t 9), none, none, [], none⟩,
  ⟨(some 24), .call false 65 [(.t 21), (.t 22), (.t 23)], none, none, [], none⟩,
  ⟨(some 20), .mv (.t 24), none, none, [], none⟩,
  ⟨(some 25), .ext 0 (.t 20), none, none, [], none⟩,
  ⟨(some 26), .ext 1 (.t 20), none, none, [], none⟩,
  ⟨(some 10), .mv (.t 25), none, none, [], none⟩,
  ⟨(some 11), .mv (.t 26), none, none, [], none⟩]
def ac_field_Take_11 : AC := .reg l_field_Take_11
def l_field_Take_12 : List AOp := [⟨(some 27), .mv (.t 11), none, none, [], none⟩,
  ⟨(some 28), .bin .neq (.t 27) (.k (.int .i64 0)), none, none, [], none⟩]
def ac_field_Take_12 : AC := .reg l_field_Take_12
def l_field_Take_13 : List AOp := [⟨(some 29), .mv (.t 11), none, none, [], none⟩,
  ⟨(some 4), .nilown 1, none, none, [], none⟩,
  ⟨(some 5), .mv (.k (.str [])), none, none, [], none⟩,
  ⟨(some 6), .mv (.t 29), none, none, [], none⟩]
def ac_field_Take_13 : AC := .reg l_field_Take_13
def ac_field_Take_14 : AC := .seq ac_field_Take_13 .ret
def ac_field_Take_15 : AC := .cond (.t 28) ac_field_Take_14 .skip
def ac_field_Take_16 : AC := .seq ac_field_Take_12 ac_field_Take_15
def l_field_Take_17 : List AOp := [⟨(some 30), .mv (.t 4), none, none, [], none⟩,
  ⟨(some 31), .mv (.t 10), none, none, [], none⟩,
  ⟨(some 32), .blds false [(.int .u64 0)] 1 [(0, (.t 31))], none, none, [], none⟩,
  ⟨(some 33), .app 1 8 [(.int .u64 0)] (.t 30) (.t 32), none, none, [], none⟩,
  ⟨(some 4), .mv (.t 33), none, none, [], none⟩]
def ac_field_Take_17 : AC := .reg l_field_Take_17
def l_field_Take_18 : List AOp := [⟨(some 34), .mv (.t 7), none, none, [], none⟩,
  ⟨(some 35), .mv (.t 9), none, none, [], none⟩,
  ⟨(some 36), .bin .add (.t 34) (.t 35), none, none, [], none⟩,
  ⟨(some 7), .mv (.t 36), none, none, [], none⟩]
def ac_field_Take_18 : AC := .reg l_field_Take_18
def ac_field_Take_19 : AC := .seq ac_field_Take_17 ac_field_Take_18
def ac_field_Take_20 : AC := .seq ac_field_Take_16 ac_field_Take_19
def ac_field_Take_21 : AC := .seq ac_field_Take_11 ac_field_Take_20
def ac_field_Take_22 : AC := .seq ac_field_Take_10 ac_field_Take_21
def ac_field_Take_23 : AC := .block 1 ac_field_Take_22
def l_field_Take_24 : List AOp := [⟨(some 37), .bin .add (.t 16) (.k (.int .i64 1)), none, none, [], none⟩,
  ⟨(some 16), .mv (.t 37), none, none, [], none⟩]
def ac_field_Take_24 : AC := .reg l_field_Take_24
def ac_field_Take_25 : AC := .seq ac_field_Take_23 ac_field_Take_24
def ac_field_Take_26 : AC := .seq ac_field_Take_9 ac_field_Take_25
def ac_field_Take_27 : AC := .seq ac_field_Take_8 ac_field_Take_26
def ac_field_Take_28 : AC := .loop [0, 4, 7, 14, 15, 16] 1 ac_field_Take_27
def ac_field_Take_29 : AC := .block 0 ac_field_Take_28
def ac_field_Take_30 : AC := .seq ac_field_Take_7 ac_field_Take_29
def l_field_Take_31 : List AOp := [⟨(some 38), .mv (.t 4), none, none, [], none⟩,
  ⟨(some 39), .mv (.t 0), none, none, [], none⟩,
  ⟨(some 40), .mv (.t 7), none, none, [], none⟩,
  ⟨(some 41), .sstr (.t 39) (some (.t 40)) none, none, none, [], none⟩,
  ⟨(some 4), .mv (.t 38), none, none, [], none⟩,
  ⟨(some 5), .mv (.t 41), none, none, [], none⟩,
  ⟨(some 6), .mv (.k (.int .i64 0)), none, none, [], none⟩]
def ac_field_Take_31 : AC := .dreg 0 l_field_Take_31
def ac_field_Take_32 : AC := .seq ac_field_Take_31 .ret
def ac_field_Take_33 : AC := .seq ac_field_Take_30 ac_field_Take_32
def ac_field_Take_34 : AC := .seq ac_field_Take_6 ac_field_Take_33
def ac_field_Take_35 : AC := .seq ac_field_Take_5 ac_field_Take_34
def ac_field_Take_36 : AC := .seq ac_field_Take_0 ac_field_Take_35
def ac_field_Take : AC := ac_field_Take_36
theorem comp_field_Take : compF Try.prog [4] (drawR Try.prog [4] Try.f47.ntmps) [([0, 4, 7, 14, 15, 16], 1)] 2 Try.f47 = some (ac_field_Take, [.t 4, .t 5, .t 6]) := by kernel_rfl
def U_field_Take := (And.intro (And.intro (And.intro (And.intro (And.intro (And.intro @ac_field_Take.eq_1 (@mR _ _ ac_field_Take_0.eq_1)) (And.intro (@mR _ _ ac_field_Take_1.eq_1) (@mR _ _ ac_field_Take_2.eq_1))) (And.intro (And.intro (@mU _ _ ac_field_Take_3.eq_1) (@mU _ _ ac_field_Take_4.eq_1)) (@mU _ _ ac_field_Take_5.eq_1))) (And.intro (And.intro (And.intro (@mR _ _ ac_field_Take_6.eq_1) (@mR _ _ ac_field_Take_7.eq_1)) (@mR _ _ ac_field_Take_8.eq_1)) (And.intro (And.intro (@mU _ _ ac_field_Take_9.eq_1) (@mR _ _ ac_field_Take_10.eq_1)) (@mR _ _ ac_field_Take_11.eq_1)))) (And.intro (And.intro (And.intro (And.intro (@mR _ _ ac_field_Take_12.eq_1) (@mR _ _ ac_field_Take_13.eq_1)) (And.intro (@mU _ _ ac_field_Take_14.eq_1) (@mU _ _ ac_field_Take_15.eq_1))) (And.intro (And.intro (@mU _ _ ac_field_Take_16.eq_1) (@mR _ _ ac_field_Take_17.eq_1)) (@mR _ _ ac_field_Take_18.eq_1))) (And.intro (And.intro (And.intro (@mU _ _ ac_field_Take_19.eq_1) (@mU _ _ ac_field_Take_20.eq_1)) (@mU _ _ ac_field_Take_21.eq_1)) (And.intro (And.intro (@mU _ _ ac_field_Take_22.eq_1) (@mU _ _ ac_field_Take_23.eq_1)) (@mR _ _ ac_field_Take_24.eq_1))))) (And.intro (And.intro (And.intro (And.intro (And.intro (@mU _ _ ac_field_Take_25.eq_1) (@mU _ _ ac_field_Take_26.eq_1)) (And.intro (@mU _ _ ac_field_Take_27.eq_1) (@mU _ _ ac_field_Take_28.eq_1))) (And.intro (And.intro (@mU _ _ ac_field_Take_29.eq_1) (@mU _ _ ac_field_Take_30.eq_1)) (@mD _ _ _ ac_field_Take_31.eq_1))) (And.intro (And.intro (And.intro (@mU _ _ ac_field_Take_32.eq_1) (@mU _ _ ac_field_Take_33.eq_1)) (@mU _ _ ac_field_Take_34.eq_1)) (And.intro (And.intro (@mU _ _ ac_field_Take_35.eq_1) (@mU _ _ ac_field_Take_36.eq_1)) @l_field_Take_0.eq_1))) (And.intro (And.intro (And.intro (And.intro @l_field_Take_1.eq_1 @l_field_Take_2.eq_1) (And.intro @l_field_Take_6.eq_1 @l_field_Take_7.eq_1)) (And.intro (And.intro @l_field_Take_8.eq_1 @l_field_Take_10.eq_1) @l_field_Take_11.eq_1)) (And.intro (And.intro (And.intro @l_field_Take_12.eq_1 @l_field_Take_13.eq_1) @l_field_Take_17.eq_1) (And.intro (And.intro @l_field_Take_18.eq_1 @l_field_Take_24.eq_1) @l_field_Take_31.eq_1)))))

/- scoria/scoriaref01.Get -/
def l_ref01_Get_0 : List AOp := [⟨(some 6), .mv (.k (.int .u64 0)), none, none, [], none⟩,
  ⟨(some 7), .mv (.k (.int .i64 0)), none, none, [], none⟩]
def ac_ref01_Get_0 : AC := .reg l_ref01_Get_0
def l_ref01_Get_1 : List AOp := [⟨(some 11), .mv (.t 2), none, none, [], none⟩,
  ⟨(some 12), .bin .lss (.t 11) (.k (.int .i64 1)), none, none, [], none⟩,
  ⟨(some 13), .mv (.t 12), none, none, [], none⟩,
  ⟨(some 14), .mv (.t 2), (some (13, false)), none, [], none⟩,
  ⟨(some 15), .bin .gtr (.t 14) (.k (.int .i64 8)), (some (13, false)), none, [], none⟩,
  ⟨(some 16), .pick (.t 13) (.k (.bool true)) (.t 15), none, none, [], none⟩,
  ⟨(some 17), .mv (.t 16), none, none, [], none⟩,
  ⟨(some 18), .mv (.t 1), (some (17, false)), none, [], none⟩,
  ⟨(some 19), .bin .lss (.t 18) (.k (.int .i64 0)), (some (17, false)), none, [], none⟩,
  ⟨(some 20), .pick (.t 17) (.k (.bool true)) (.t 19), none, none, [], none⟩]
def ac_ref01_Get_1 : AC := .reg l_ref01_Get_1
def l_ref01_Get_2 : List AOp := [⟨(some 6), .mv (.k (.int .u64 0)), none, none, [], none⟩,
  ⟨(some 7), .mv (.k (.int .i64 1)), none, none, [], none⟩]
def ac_ref01_Get_2 : AC := .reg l_ref01_Get_2
def ac_ref01_Get_3 : AC := .seq ac_ref01_Get_2 .ret
def ac_ref01_Get_4 : AC := .cond (.t 20) ac_ref01_Get_3 .skip
def ac_ref01_Get_5 : AC := .seq ac_ref01_Get_1 ac_ref01_Get_4
def l_ref01_Get_6 : List AOp := [⟨(some 21), .mv (.t 1), none, none, [], none⟩,
  ⟨(some 22), .mv (.t 0), none, none, [], none⟩,
  ⟨(some 23), .lens (.t 22), none, none, [], none⟩,
  ⟨(some 24), .bin .gtr (.t 21) (.t 23), none, none, [], none⟩,
  ⟨(some 25), .mv (.t 24), none, none, [], none⟩,
  ⟨(some 26), .mv (.t 2), (some (25, false)), none, [], none⟩,
  ⟨(some 27), .mv (.t 0), (some (25, false)), none, [], none⟩,
  ⟨(some 28), .lens (.t 27), (some (25, false)), none, [], none⟩,
  ⟨(some 29), .mv (.t 1), (some (25, false)), none, [], none⟩,
  ⟨(some 30), .bin .sub (.t 28) (.t 29), (some (25, false)), none, [], none⟩,
  ⟨(some 31), .bin .gtr (.t 26) (.t 30), (some (25, false)), none, [], none⟩,
  ⟨(some 32), .pick (.t 25) (.k (.bool true)) (.t 31), none, none, [], none⟩]
def ac_ref01_Get_6 : AC := .reg l_ref01_Get_6
def l_ref01_Get_7 : List AOp := [⟨(some 6), .mv (.k (.int .u64 0)), none, none, [], none⟩,
  ⟨(some 7), .mv (.k (.int .i64 5)), none, none, [], none⟩]
def ac_ref01_Get_7 : AC := .reg l_ref01_Get_7
def ac_ref01_Get_8 : AC := .seq ac_ref01_Get_7 .ret
def ac_ref01_Get_9 : AC := .cond (.t 32) ac_ref01_Get_8 .skip
def ac_ref01_Get_10 : AC := .seq ac_ref01_Get_6 ac_ref01_Get_9
def l_ref01_Get_11 : List AOp := [⟨(some 8), .mv (.k (.int .u64 0)), none, none, [], none⟩,
  ⟨(some 9), .mv (.k (.int .u64 1)), none, none, [], none⟩]
def ac_ref01_Get_11 : AC := .reg l_ref01_Get_11
def l_ref01_Get_12 : List AOp := [⟨(some 10), .mv (.k (.int .i64 0)), none, none, [], none⟩]
def ac_ref01_Get_12 : AC := .reg l_ref01_Get_12
def l_ref01_Get_13 : List AOp := [⟨(some 33), .mv (.t 10), none, none, [], none⟩,
  ⟨(some 34), .mv (.t 2), none, none, [], none⟩,
  ⟨(some 35), .bin .lss (.t 33) (.t 34), none, none, [], none⟩]
def ac_ref01_Get_13 : AC := .reg l_ref01_Get_13
def ac_ref01_Get_14 : AC := .cond (.t 35) .skip (.exit 0)
def ac_ref01_Get_15 : AC := .seq ac_ref01_Get_13 ac_ref01_Get_14
def l_ref01_Get_16 : List AOp := [⟨(some 38), .mv (.t 8), none, none, [], none⟩,
  ⟨(some 39), .mv (.t 9), none, none, [], none⟩,
  ⟨(some 40), .mv (.t 0), none, none, [], none⟩,
  ⟨(some 41), .mv (.t 1), none, none, [], none⟩,
  ⟨(some 42), .mv (.t 10), none, none, [], none⟩,
  ⟨(some 43), .bin .add (.t 41) (.t 42), none, none, [], none⟩,
  ⟨(some 44), .idxs (.t 40) (.t 43), none, none, [], none⟩,
  ⟨(some 45), .conv .u64 (.t 44), none, none, [], none⟩,
  ⟨(some 46), .bin .mul (.t 39) (.t 45), none, none, [], none⟩,
  ⟨(some 47), .bin .add (.t 38) (.t 46), none, none, [], none⟩,
  ⟨(some 8), .mv (.t 47), none, none, [], none⟩]
def ac_ref01_Get_16 : AC := .reg l_ref01_Get_16
def l_ref01_Get_17 : List AOp := [⟨(some 48), .mv (.t 9), none, none, [], none⟩,
  ⟨(some 49), .bin .mul (.t 48) (.k (.int .u64 256)), none, none, [], none⟩,
  ⟨(some 9), .mv (.t 49), none, none, [], none⟩]
def ac_ref01_Get_17 : AC := .reg l_ref01_Get_17
def ac_ref01_Get_18 : AC := .seq ac_ref01_Get_16 ac_ref01_Get_17
def ac_ref01_Get_19 : AC := .block 1 ac_ref01_Get_18
def l_ref01_Get_20 : List AOp := [⟨(some 36), .mv (.t 10), none, none, [], none⟩,
  ⟨(some 37), .bin .add (.t 36) (.k (.int .i64 1)), none, none, [], none⟩,
  ⟨(some 10), .mv (.t 37), none, none, [], none⟩]
def ac_ref01_Get_20 : AC := .reg l_ref01_Get_20
def ac_ref01_Get_21 : AC := .seq ac_ref01_Get_19 ac_ref01_Get_20
def ac_ref01_Get_22 : AC := .seq ac_ref01_Get_15 ac_ref01_Get_21
def ac_ref01_Get_23 : AC := .loop [0, 1, 2, 8, 9, 10] 0 ac_ref01_Get_22
def ac_ref01_Get_24 : AC := .block 0 ac_ref01_Get_23
def ac_ref01_Get_25 : AC := .seq ac_ref01_Get_12 ac_ref01_Get_24
def l_ref01_Get_26 : List AOp := [⟨(some 50), .mv (.t 8), none, none, [], none⟩,
  ⟨(some 6), .mv (.t 50), none, none, [], none⟩,
  ⟨(some 7), .mv (.k (.int .i64 0)), none, none, [], none⟩]
def ac_ref01_Get_26 : AC := .reg l_ref01_Get_26
def ac_ref01_Get_27 : AC := .seq ac_ref01_Get_26 .ret
def ac_ref01_Get_28 : AC := .seq ac_ref01_Get_25 ac_ref01_Get_27
def ac_ref01_Get_29 : AC := .seq ac_ref01_Get_11 ac_ref01_Get_28
def ac_ref01_Get_30 : AC := .seq ac_ref01_Get_10 ac_ref01_Get_29
def ac_ref01_Get_31 : AC := .seq ac_ref01_Get_5 ac_ref01_Get_30
def ac_ref01_Get_32 : AC := .seq ac_ref01_Get_0 ac_ref01_Get_31
def ac_ref01_Get : AC := ac_ref01_Get_32
theorem comp_ref01_Get : compF Try.prog [] (drawR Try.prog [] Try.f48.ntmps) [([0, 1, 2, 8, 9, 10], 0)] 3 Try.f48 = some (ac_ref01_Get, [.t 6, .t 7]) := by kernel_rfl
def U_ref01_Get := (And.intro (And.intro (And.intro (And.intro (And.intro (And.intro @ac_ref01_Get.eq_1 (@mR _ _ ac_ref01_Get_0.eq_1)) (@mR _ _ ac_ref01_Get_1.eq_1)) (And.intro (And.intro (@mR _ _ ac_ref01_Get_2.eq_1) (@mU _ _ ac_ref01_Get_3.eq_1)) (@mU _ _ ac_ref01_Get_4.eq_1))) (And.intro (And.intro (And.intro (@mU _ _ ac_ref01_Get_5.eq_1) (@mR _ _ ac_ref01_Get_6.eq_1)) (@mR _ _ ac_ref01_Get_7.eq_1)) (And.intro (And.intro (@mU _ _ ac_ref01_Get_8.eq_1) (@mU _ _ ac_ref01_Get_9.eq_1)) (@mU _ _ ac_ref01_Get_10.eq_1)))) (And.intro (And.intro (And.intro (And.intro (@mR _ _ ac_ref01_Get_11.eq_1) (@mR _ _ ac_ref01_Get_12.eq_1)) (@mR _ _ ac_ref01_Get_13.eq_1)) (And.intro (And.intro (@mU _ _ ac_ref01_Get_14.eq_1) (@mU _ _ ac_ref01_Get_15.eq_1)) (@mR _ _ ac_ref01_Get_16.eq_1))) (And.intro (And.intro (And.intro (@mR _ _ ac_ref01_Get_17.eq_1) (@mU _ _ ac_ref01_Get_18.eq_1)) (@mU _ _ ac_ref01_Get_19.eq_1)) (And.intro (@mR _ _ ac_ref01_Get_20.eq_1) (@mU _ _ ac_ref01_Get_21.eq_1))))) (And.intro (And.intro (And.intro (And.intro (And.intro (@mU _ _ ac_ref01_Get_22.eq_1) (@mU _ _ ac_ref01_Get_23.eq_1)) (@mU _ _ ac_ref01_Get_24.eq_1)) (And.intro (And.intro (@mU _ _ ac_ref01_Get_25.eq_1) (@mR _ _ ac_ref01_Get_26.eq_1)) (@mU _ _ ac_ref01_Get_27.eq_1))) (And.intro (And.intro (And.intro (@mU _ _ ac_ref01_Get_28.eq_1) (@mU _ _ ac_ref01_Get_29.eq_1)) (@mU _ _ ac_ref01_Get_30.eq_1)) (And.intro (And.intro (@mU _ _ ac_ref01_Get_31.eq_1) (@mU _ _ ac_ref01_Get_32.eq_1)) @l_ref01_Get_0.eq_1))) (And.intro (And.intro (And.intro (And.intro @l_ref01_Get_1.eq_1 @l_ref01_Get_2.eq_1) @l_ref01_Get_6.eq_1) (And.intro (And.intro @l_ref01_Get_7.eq_1 @l_ref01_Get_11.eq_1) @l_ref01_Get_12.eq_1)) (And.intro (And.intro (And.intro @l_ref01_Get_13.eq_1 @l_ref01_Get_16.eq_1) @l_ref01_Get_17.eq_1) (And.intro @l_ref01_Get_20.eq_1 @l_ref01_Get_26.eq_1)))))

/- slices.ContainsFunc[[]scoria/api.Kid,scoria/api.Kid] -/
def l_slices_ContainsFunc_api_Kid_0 : List AOp := [⟨(some 4), .mv (.k (.bool false)), none, none, [], none⟩]
def ac_slices_ContainsFunc_api_Kid_0 : AC := .reg l_slices_ContainsFunc_api_Kid_0
def l_slices_ContainsFunc_api_Kid_1 : List AOp := [⟨(some 5), .mv (.t 0), none, none, [], none⟩,
  ⟨(some 6), .mv (.t 1), none, none, [], none⟩,
  ⟨(some 7), .call false 66 [(.t 5), (.t 6)], none, none, [], none⟩,
  ⟨(some 8), .bin .geq (.t 7) (.k (.int .i64 0)), none, none, [], none⟩,
  ⟨(some 4), .mv (.t 8), none, none, [], none⟩]
def ac_slices_ContainsFunc_api_Kid_1 : AC := .reg l_slices_ContainsFunc_api_Kid_1
def ac_slices_ContainsFunc_api_Kid_2 : AC := .seq ac_slices_ContainsFunc_api_Kid_1 .ret
def ac_slices_ContainsFunc_api_Kid_3 : AC := .seq ac_slices_ContainsFunc_api_Kid_0 ac_slices_ContainsFunc_api_Kid_2
def ac_slices_ContainsFunc_api_Kid : AC := ac_slices_ContainsFunc_api_Kid_3
theorem comp_slices_ContainsFunc_api_Kid : compF Try.prog [] (drawR Try.prog [] Try.f49.ntmps) [] 2 Try.f49 = some (ac_slices_ContainsFunc_api_Kid, [.t 4]) := by kernel_rfl
def U_slices_ContainsFunc_api_Kid := (And.intro (And.intro (And.intro @ac_slices_ContainsFunc_api_Kid.eq_1 (@mR _ _ ac_slices_ContainsFunc_api_Kid_0.eq_1)) (And.intro (@mR _ _ ac_slices_ContainsFunc_api_Kid_1.eq_1) (@mU _ _ ac_slices_ContainsFunc_api_Kid_2.eq_1))) (And.intro (And.intro (@mU _ _ ac_slices_ContainsFunc_api_Kid_3.eq_1) @l_slices_ContainsFunc_api_Kid_0.eq_1) @l_slices_ContainsFunc_api_Kid_1.eq_1))

/- scoria/leaf.kids$1 -/
def l_leaf_kids_c1_0 : List AOp := [⟨(some 2), .box (.t 0), none, none, [], none⟩,
  ⟨(some 3), .mv (.k (.bool false)), none, none, [], none⟩]
def ac_leaf_kids_c1_0 : AC := .reg l_leaf_kids_c1_0
def l_leaf_kids_c1_1 : List AOp := [⟨(some 4), .faddr 1 (.t 2), none, none, [], none⟩,
  ⟨(some 5), .load none (.t 4), none, none, [], none⟩,
  ⟨(some 6), .faddr 1 (.t 1), none, none, [], none⟩,
  ⟨(some 7), .load none (.t 6), none, none, [], none⟩,
  ⟨(some 8), .bin .eql (.t 5) (.t 7), none, none, [], none⟩,
  ⟨(some 3), .mv (.t 8), none, none, [], none⟩]
def ac_leaf_kids_c1_1 : AC := .reg l_leaf_kids_c1_1
def ac_leaf_kids_c1_2 : AC := .seq ac_leaf_kids_c1_1 .ret
def ac_leaf_kids_c1_3 : AC := .seq ac_leaf_kids_c1_0 ac_leaf_kids_c1_2
def ac_leaf_kids_c1 : AC := ac_leaf_kids_c1_3
theorem comp_leaf_kids_c1 : compF Try.prog [] (drawR Try.prog [] Try.f50.ntmps) [] 2 Try.f50 = some (ac_leaf_kids_c1, [.t 3]) := by kernel_rfl
def U_leaf_kids_c1 := (And.intro (And.intro (And.intro @ac_leaf_kids_c1.eq_1 (@mR _ _ ac_leaf_kids_c1_0.eq_1)) (And.intro (@mR _ _ ac_leaf_kids_c1_1.eq_1) (@mU _ _ ac_leaf_kids_c1_2.eq_1))) (And.intro (And.intro (@mU _ _ ac_leaf_kids_c1_3.eq_1) @l_leaf_kids_c1_0.eq_1) @l_leaf_kids_c1_1.eq_1))

/- slices.Backward[[]scoria/api.Kid,scoria/api.Kid]$1 -/
def l_slices_Backward_api_Kid_c1_0 : List AOp := [⟨(some 4), .load none (.t 1), none, none, [], none⟩,
  ⟨(some 5), .len (.t 4), none, none, [], none⟩,
  ⟨(some 6), .bin .sub (.t 5) (.k (.int .i64 1)), none, none, [], none⟩,
  ⟨(some 3), .mv (.t 6), none, none, [], none⟩]
def ac_slices_Backward_api_Kid_c1_0 : AC := .reg l_slices_Backward_api_Kid_c1_0
def l_slices_Backward_api_Kid_c1_1 : List AOp := [⟨(some 7), .mv (.t 3), none, none, [], none⟩,
  ⟨(some 8), .bin .geq (.t 7) (.k (.int .i64 0)), none, none, [], none⟩]
def ac_slices_Backward_api_Kid_c1_1 : AC := .reg l_slices_Backward_api_Kid_c1_1
def ac_slices_Backward_api_Kid_c1_2 : AC := .cond (.t 8) .skip (.exit 0)
def ac_slices_Backward_api_Kid_c1_3 : AC := .seq ac_slices_Backward_api_Kid_c1_1 ac_slices_Backward_api_Kid_c1_2
def l_slices_Backward_api_Kid_c1_4 : List AOp := [⟨(some 11), .mv (.t 0), none, none, [], none⟩,
  ⟨(some 12), .mv (.t 3), none, none, [], none⟩,
  ⟨(some 13), .load none (.t 1), none, none, [], none⟩,
  ⟨(some 14), .mv (.t 3), none, none, [], none⟩,
  ⟨(some 15), .isl 2 (.t 13) (.t 14), none, none, [], none⟩,
  ⟨(some 16), .load (some 2) (.t 15), none, none, [], none⟩,
  ⟨(some 17), .callv (.t 11) [(.t 12), (.t 16)], none, none, [], none⟩,
  ⟨(some 18), .un .not (.t 17), none, none, [], none⟩]
def ac_slices_Backward_api_Kid_c1_4 : AC := .reg l_slices_Backward_api_Kid_c1_4
def ac_slices_Backward_api_Kid_c1_5 : AC := .cond (.t 18) .ret .skip
def ac_slices_Backward_api_Kid_c1_6 : AC := .seq ac_slices_Backward_api_Kid_c1_4 ac_slices_Backward_api_Kid_c1_5
def ac_slices_Backward_api_Kid_c1_7 : AC := .block 1 ac_slices_Backward_api_Kid_c1_6
def l_slices_Backward_api_Kid_c1_8 : List AOp := [⟨(some 9), .mv (.t 3), none, none, [], none⟩,
  ⟨(some 10), .bin .sub (.t 9) (.k (.int .i64 1)), none, none, [], none⟩,
  ⟨(some 3), .mv (.t 10), none, none, [], none⟩]
def ac_slices_Backward_api_Kid_c1_8 : AC := .reg l_slices_Backward_api_Kid_c1_8
def ac_slices_Backward_api_Kid_c1_9 : AC := .seq ac_slices_Backward_api_Kid_c1_7 ac_slices_Backward_api_Kid_c1_8
def ac_slices_Backward_api_Kid_c1_10 : AC := .seq ac_slices_Backward_api_Kid_c1_3 ac_slices_Backward_api_Kid_c1_9
def ac_slices_Backward_api_Kid_c1_11 : AC := .loop [0, 1, 3] 0 ac_slices_Backward_api_Kid_c1_10
def ac_slices_Backward_api_Kid_c1_12 : AC := .block 0 ac_slices_Backward_api_Kid_c1_11
def ac_slices_Backward_api_Kid_c1_13 : AC := .seq ac_slices_Backward_api_Kid_c1_0 ac_slices_Backward_api_Kid_c1_12
def ac_slices_Backward_api_Kid_c1 : AC := ac_slices_Backward_api_Kid_c1_13
theorem comp_slices_Backward_api_Kid_c1 : compF Try.prog [] (drawR Try.prog [] Try.f51.ntmps) [([0, 1, 3], 0)] 2 Try.f51 = some (ac_slices_Backward_api_Kid_c1, []) := by kernel_rfl
def U_slices_Backward_api_Kid_c1 := (And.intro (And.intro (And.intro (And.intro (And.intro @ac_slices_Backward_api_Kid_c1.eq_1 (@mR _ _ ac_slices_Backward_api_Kid_c1_0.eq_1)) (@mR _ _ ac_slices_Backward_api_Kid_c1_1.eq_1)) (And.intro (@mU _ _ ac_slices_Backward_api_Kid_c1_2.eq_1) (@mU _ _ ac_slices_Backward_api_Kid_c1_3.eq_1))) (And.intro (And.intro (And.intro (@mR _ _ ac_slices_Backward_api_Kid_c1_4.eq_1) (@mU _ _ ac_slices_Backward_api_Kid_c1_5.eq_1)) (@mU _ _ ac_slices_Backward_api_Kid_c1_6.eq_1)) (And.intro (@mU _ _ ac_slices_Backward_api_Kid_c1_7.eq_1) (@mR _ _ ac_slices_Backward_api_Kid_c1_8.eq_1)))) (And.intro (And.intro (And.intro (And.intro (@mU _ _ ac_slices_Backward_api_Kid_c1_9.eq_1) (@mU _ _ ac_slices_Backward_api_Kid_c1_10.eq_1)) (@mU _ _ ac_slices_Backward_api_Kid_c1_11.eq_1)) (And.intro (@mU _ _ ac_slices_Backward_api_Kid_c1_12.eq_1) (@mU _ _ ac_slices_Backward_api_Kid_c1_13.eq_1))) (And.intro (And.intro @l_slices_Backward_api_Kid_c1_0.eq_1 @l_slices_Backward_api_Kid_c1_1.eq_1) (And.intro @l_slices_Backward_api_Kid_c1_4.eq_1 @l_slices_Backward_api_Kid_c1_8.eq_1))))

/- scoria/ext.One -/
def l_ext_One_0 : List AOp := [⟨(some 1), .box (.t 0), none, none, [], none⟩,
  ⟨(some 2), .mv (.k (.bool false)), none, none, [], none⟩]
def ac_ext_One_0 : AC := .reg l_ext_One_0
def l_ext_One_1 : List AOp := [⟨(some 3), .faddr 0 (.t 1), none, none, [], none⟩,
  ⟨(some 4), .load none (.t 3), none, none, [], none⟩,
  ⟨(some 5), .faddr 1 (.t 1), none, none, [], none⟩,
  ⟨(some 6), .load none (.t 5), none, none, [], none⟩,
  ⟨(some 7), .call false 67 [(.t 4), (.t 6)], none, none, [], none⟩,
  ⟨(some 8), .un .not (.t 7), none, none, [], none⟩,
  ⟨(some 9), .mv (.t 8), none, none, [], none⟩,
  ⟨(some 10), .faddr 1 (.t 1), (some (9, false)), none, [], none⟩,
  ⟨(some 11), .load none (.t 10), (some (9, false)), none, [], none⟩,
  ⟨(some 12), .bin .lss (.t 11) (.k (.int .i64 1)), (some (9, false)), none, [], none⟩,
  ⟨(some 13), .pick (.t 9) (.k (.bool true)) (.t 12), none, none, [], none⟩]
def ac_ext_One_1 : AC := .reg l_ext_One_1
def l_ext_One_2 : List AOp := [⟨(some 2), .mv (.k (.bool false)), none, none, [], none⟩]
def ac_ext_One_2 : AC := .reg l_ext_One_2
def ac_ext_One_3 : AC := .seq ac_ext_One_2 .ret
def ac_ext_One_4 : AC := .cond (.t 13) ac_ext_One_3 .skip
def ac_ext_One_5 : AC := .seq ac_ext_One_1 ac_ext_One_4
def l_ext_One_6 : List AOp := [⟨(some 14), .faddr 2 (.t 1), none, none, [], none⟩,
  ⟨(some 15), .load none (.t 14), none, none, [], none⟩,
  ⟨(some 16), .bin .eql (.t 15) (.k (.int .i64 1)), none, none, [], none⟩]
def ac_ext_One_6 : AC := .reg l_ext_One_6
def l_ext_One_7 : List AOp := [⟨(some 17), .faddr 3 (.t 1), none, none, [], none⟩,
  ⟨(some 18), .load none (.t 17), none, none, [], none⟩,
  ⟨(some 19), .bin .eql (.t 18) (.k (.int .i64 0)), none, none, [], none⟩,
  ⟨(some 2), .mv (.t 19), none, none, [], none⟩]
def ac_ext_One_7 : AC := .reg l_ext_One_7
def ac_ext_One_8 : AC := .seq ac_ext_One_7 .ret
def ac_ext_One_9 : AC := .cond (.t 16) ac_ext_One_8 .skip
def ac_ext_One_10 : AC := .seq ac_ext_One_6 ac_ext_One_9
def l_ext_One_11 : List AOp := [⟨(some 20), .faddr 2 (.t 1), none, none, [], none⟩,
  ⟨(some 21), .load none (.t 20), none, none, [], none⟩,
  ⟨(some 22), .bin .eql (.t 21) (.k (.int .i64 2)), none, none, [], none⟩,
  ⟨(some 23), .mv (.t 22), none, none, [], none⟩,
  ⟨(some 24), .faddr 3 (.t 1), (some (23, true)), none, [], none⟩,
  ⟨(some 25), .load none (.t 24), (some (23, true)), none, [], none⟩,
  ⟨(some 26), .bin .geq (.t 25) (.k (.int .i64 0)), (some (23, true)), none, [], none⟩,
  ⟨(some 27), .pick (.t 23) (.t 26) (.k (.bool false)), none, none, [], none⟩,
  ⟨(some 28), .mv (.t 27), none, none, [], none⟩,
  ⟨(some 29), .faddr 3 (.t 1), (some (28, true)), none, [], none⟩,
  ⟨(some 30), .load none (.t 29), (some (28, true)), none, [], none⟩,
  ⟨(some 31), .bin .leq (.t 30) (.k (.int .i64 2048)), (some (28, true)), none, [], none⟩,
  ⟨(some 32), .pick (.t 28) (.t 31) (.k (.bool false)), none, none, [], none⟩,
  ⟨(some 33), .mv (.t 32), none, none, [], none⟩,
  ⟨(some 34), .faddr 1 (.t 1), (some (33, true)), none, [], none⟩,
  ⟨(some 35), .load none (.t 34), (some (33, true)), none, [], none⟩,
  ⟨(some 36), .faddr 3 (.t 1), (some (33, true)), none, [], none⟩,
  ⟨(some 37), .load none (.t 36), (some (33, true)), none, [], none⟩,
  ⟨(some 38), .bin .sub (.k (.int .i64 2048)) (.t 37), (some (33, true)), none, [], none⟩,
  ⟨(some 39), .bin .leq (.t 35) (.t 38), (some (33, true)), none, [], none⟩,
  ⟨(some 40), .pick (.t 33) (.t 39) (.k (.bool false)), none, none, [], none⟩,
  ⟨(some 2), .mv (.t 40), none, none, [], none⟩]
def ac_ext_One_11 : AC := .reg l_ext_One_11
def ac_ext_One_12 : AC := .seq ac_ext_One_11 .ret
def ac_ext_One_13 : AC := .seq ac_ext_One_10 ac_ext_One_12
def ac_ext_One_14 : AC := .seq ac_ext_One_5 ac_ext_One_13
def ac_ext_One_15 : AC := .seq ac_ext_One_0 ac_ext_One_14
def ac_ext_One : AC := ac_ext_One_15
theorem comp_ext_One : compF Try.prog [] (drawR Try.prog [] Try.f52.ntmps) [] 1 Try.f52 = some (ac_ext_One, [.t 2]) := by kernel_rfl
def U_ext_One := (And.intro (And.intro (And.intro (And.intro (And.intro @ac_ext_One.eq_1 (@mR _ _ ac_ext_One_0.eq_1)) (@mR _ _ ac_ext_One_1.eq_1)) (And.intro (And.intro (@mR _ _ ac_ext_One_2.eq_1) (@mU _ _ ac_ext_One_3.eq_1)) (@mU _ _ ac_ext_One_4.eq_1))) (And.intro (And.intro (And.intro (@mU _ _ ac_ext_One_5.eq_1) (@mR _ _ ac_ext_One_6.eq_1)) (@mR _ _ ac_ext_One_7.eq_1)) (And.intro (And.intro (@mU _ _ ac_ext_One_8.eq_1) (@mU _ _ ac_ext_One_9.eq_1)) (@mU _ _ ac_ext_One_10.eq_1)))) (And.intro (And.intro (And.intro (And.intro (@mR _ _ ac_ext_One_11.eq_1) (@mU _ _ ac_ext_One_12.eq_1)) (@mU _ _ ac_ext_One_13.eq_1)) (And.intro (And.intro (@mU _ _ ac_ext_One_14.eq_1) (@mU _ _ ac_ext_One_15.eq_1)) @l_ext_One_0.eq_1)) (And.intro (And.intro (And.intro @l_ext_One_1.eq_1 @l_ext_One_2.eq_1) @l_ext_One_6.eq_1) (And.intro @l_ext_One_7.eq_1 @l_ext_One_11.eq_1))))

/- scoria/ext.end -/
def l_ext_end_0 : List AOp := [⟨(some 1), .box (.t 0), none, none, [], none⟩,
  ⟨(some 2), .mv (.k (.int .i64 0)), none, none, [], none⟩]
def ac_ext_end_0 : AC := .reg l_ext_end_0
def l_ext_end_1 : List AOp := [⟨(some 3), .faddr 0 (.t 1), none, none, [], none⟩,
  ⟨(some 4), .load none (.t 3), none, none, [], none⟩,
  ⟨(some 5), .faddr 1 (.t 1), none, none, [], none⟩,
  ⟨(some 6), .load none (.t 5), none, none, [], none⟩,
  ⟨(some 7), .bin .add (.t 4) (.t 6), none, none, [], none⟩,
  ⟨(some 2), .mv (.t 7), none, none, [], none⟩]
def ac_ext_end_1 : AC := .reg l_ext_end_1
def ac_ext_end_2 : AC := .seq ac_ext_end_1 .ret
def ac_ext_end_3 : AC := .seq ac_ext_end_0 ac_ext_end_2
def ac_ext_end : AC := ac_ext_end_3
theorem comp_ext_end : compF Try.prog [] (drawR Try.prog [] Try.f53.ntmps) [] 1 Try.f53 = some (ac_ext_end, [.t 2]) := by kernel_rfl
def U_ext_end := (And.intro (And.intro (And.intro @ac_ext_end.eq_1 (@mR _ _ ac_ext_end_0.eq_1)) (And.intro (@mR _ _ ac_ext_end_1.eq_1) (@mU _ _ ac_ext_end_2.eq_1))) (And.intro (And.intro (@mU _ _ ac_ext_end_3.eq_1) @l_ext_end_0.eq_1) @l_ext_end_1.eq_1))

/- scoria/ext.together -/
def l_ext_together_0 : List AOp := [⟨(some 2), .box (.t 0), none, none, [], none⟩,
  ⟨(some 3), .box (.t 1), none, none, [], none⟩,
  ⟨(some 4), .mv (.k (.bool false)), none, none, [], none⟩]
def ac_ext_together_0 : AC := .reg l_ext_together_0
def l_ext_together_1 : List AOp := [⟨(some 6), .load (some 4) (.t 2), none, none, [0], none⟩,
  ⟨(some 7), .call false 53 [(.t 6)], none, none, [0], none⟩,
  ⟨(some 8), .faddr 1 (.t 3), none, none, [], none⟩,
  ⟨(some 9), .load none (.t 8), none, none, [0], none⟩,
  ⟨(some 10), .faddr 2 (.t 2), none, none, [], none⟩,
  ⟨(some 11), .load none (.t 10), none, none, [0], none⟩,
  ⟨(some 12), .build [(.int .i64 0), (.int .i64 0), (.int .i64 0), (.int .i64 0)] [(0, 1, (.t 7)), (1, 1, (.t 9)), (2, 1, (.t 11))], none, none, [], none⟩,
  ⟨(some 5), .alloc [(.int .i64 0), (.int .i64 0), (.int .i64 0), (.int .i64 0)], none, (some 0), [], none⟩,
  ⟨none, .store 4 (.t 5) (.t 12), none, none, [], none⟩]
def ac_ext_together_1 : AC := .dreg 1 l_ext_together_1
def l_ext_together_2 : List AOp := [⟨(some 13), .faddr 2 (.t 2), none, none, [], none⟩,
  ⟨(some 14), .load none (.t 13), none, none, [], none⟩,
  ⟨(some 15), .bin .eql (.t 14) (.k (.int .i64 2)), none, none, [], none⟩]
def ac_ext_together_2 : AC := .reg l_ext_together_2
def l_ext_together_3 : List AOp := [⟨(some 16), .faddr 3 (.t 2), none, none, [], none⟩,
  ⟨(some 17), .load none (.t 16), none, none, [], none⟩,
  ⟨(some 18), .faddr 1 (.t 2), none, none, [], none⟩,
  ⟨(some 19), .load none (.t 18), none, none, [], none⟩,
  ⟨(some 20), .bin .add (.t 17) (.t 19), none, none, [], none⟩,
  ⟨(some 21), .faddr 3 (.t 5), none, none, [], none⟩,
  ⟨none, .store 1 (.t 21) (.t 20), none, none, [], none⟩]
def ac_ext_together_3 : AC := .reg l_ext_together_3
def ac_ext_together_4 : AC := .cond (.t 15) ac_ext_together_3 .skip
def ac_ext_together_5 : AC := .seq ac_ext_together_2 ac_ext_together_4
def l_ext_together_6 : List AOp := [⟨(some 22), .load (some 4) (.t 5), none, none, [], none⟩,
  ⟨(some 23), .load (some 4) (.t 3), none, none, [], none⟩,
  ⟨(some 24), .eqs false [.i, .i, .i, .i] (.t 22) (.t 23), none, none, [], none⟩,
  ⟨(some 4), .mv (.t 24), none, none, [], none⟩]
def ac_ext_together_6 : AC := .reg l_ext_together_6
def ac_ext_together_7 : AC := .seq ac_ext_together_6 .ret
def ac_ext_together_8 : AC := .seq ac_ext_together_5 ac_ext_together_7
def ac_ext_together_9 : AC := .seq ac_ext_together_1 ac_ext_together_8
def ac_ext_together_10 : AC := .seq ac_ext_together_0 ac_ext_together_9
def ac_ext_together : AC := ac_ext_together_10
theorem comp_ext_together : compF Try.prog [] (drawR Try.prog [] Try.f54.ntmps) [] 2 Try.f54 = some (ac_ext_together, [.t 4]) := by kernel_rfl
def U_ext_together := (And.intro (And.intro (And.intro (And.intro (And.intro @ac_ext_together.eq_1 (@mR _ _ ac_ext_together_0.eq_1)) (@mD _ _ _ ac_ext_together_1.eq_1)) (And.intro (@mR _ _ ac_ext_together_2.eq_1) (@mR _ _ ac_ext_together_3.eq_1))) (And.intro (And.intro (@mU _ _ ac_ext_together_4.eq_1) (@mU _ _ ac_ext_together_5.eq_1)) (And.intro (@mR _ _ ac_ext_together_6.eq_1) (@mU _ _ ac_ext_together_7.eq_1)))) (And.intro (And.intro (And.intro (@mU _ _ ac_ext_together_8.eq_1) (@mU _ _ ac_ext_together_9.eq_1)) (And.intro (@mU _ _ ac_ext_together_10.eq_1) @l_ext_together_0.eq_1)) (And.intro (And.intro @l_ext_together_1.eq_1 @l_ext_together_2.eq_1) (And.intro @l_ext_together_3.eq_1 @l_ext_together_6.eq_1))))

/- slices.IndexFunc[[]scoria/api.Ext,scoria/api.Ext] -/
def l_slices_IndexFunc_api_Ext_0 : List AOp := [⟨(some 4), .mv (.k (.int .i64 0)), none, none, [], none⟩]
def ac_slices_IndexFunc_api_Ext_0 : AC := .reg l_slices_IndexFunc_api_Ext_0
def l_slices_IndexFunc_api_Ext_1 : List AOp := [⟨(some 6), .mv (.t 0), none, none, [], none⟩,
  ⟨(some 7), .len (.t 6), none, none, [], none⟩,
  ⟨(some 8), .mv (.k (.int .i64 0)), none, none, [], none⟩]
def ac_slices_IndexFunc_api_Ext_1 : AC := .reg l_slices_IndexFunc_api_Ext_1
def l_slices_IndexFunc_api_Ext_2 : List AOp := [⟨(some 9), .bin .lss (.t 8) (.t 7), none, none, [], none⟩]
def ac_slices_IndexFunc_api_Ext_2 : AC := .reg l_slices_IndexFunc_api_Ext_2
def ac_slices_IndexFunc_api_Ext_3 : AC := .cond (.t 9) .skip (.exit 0)
def l_slices_IndexFunc_api_Ext_4 : List AOp := [⟨(some 10), .mv (.t 8), none, none, [], none⟩,
  ⟨(some 5), .mv (.t 10), none, none, [], none⟩]
def ac_slices_IndexFunc_api_Ext_4 : AC := .reg l_slices_IndexFunc_api_Ext_4
def l_slices_IndexFunc_api_Ext_5 : List AOp := [⟨(some 11), .mv (.t 1), none, none, [], none⟩,
  ⟨(some 12), .mv (.t 0), none, none, [], none⟩,
  ⟨(some 13), .mv (.t 5), none, none, [], none⟩,
  ⟨(some 14), .isl 4 (.t 12) (.t 13), none, none, [], none⟩,
  ⟨(some 15), .load (some 4) (.t 14), none, none, [], none⟩,
  ⟨(some 16), .callv (.t 11) [(.t 15)], none, none, [], none⟩]
def ac_slices_IndexFunc_api_Ext_5 : AC := .reg l_slices_IndexFunc_api_Ext_5
def l_slices_IndexFunc_api_Ext_6 : List AOp := [⟨(some 17), .mv (.t 5), none, none, [], none⟩,
  ⟨(some 4), .mv (.t 17), none, none, [], none⟩]
def ac_slices_IndexFunc_api_Ext_6 : AC := .reg l_slices_IndexFunc_api_Ext_6
def ac_slices_IndexFunc_api_Ext_7 : AC := .seq ac_slices_IndexFunc_api_Ext_6 .ret
def ac_slices_IndexFunc_api_Ext_8 : AC := .cond (.t 16) ac_slices_IndexFunc_api_Ext_7 .skip
def ac_slices_IndexFunc_api_Ext_9 : AC := .seq ac_slices_IndexFunc_api_Ext_5 ac_slices_IndexFunc_api_Ext_8
def ac_slices_IndexFunc_api_Ext_10 : AC := .seq ac_slices_IndexFunc_api_Ext_4 ac_slices_IndexFunc_api_Ext_9
def ac_slices_IndexFunc_api_Ext_11 : AC := .block 1 ac_slices_IndexFunc_api_Ext_10
def l_slices_IndexFunc_api_Ext_12 : List AOp := [⟨(some 18), .bin .add (.t 8) (.k (.int .i64 1)), none, none, [], none⟩,
  ⟨(some 8), .mv (.t 18), none, none, [], none⟩]
def ac_slices_IndexFunc_api_Ext_12 : AC := .reg l_slices_IndexFunc_api_Ext_12
def ac_slices_IndexFunc_api_Ext_13 : AC := .seq ac_slices_IndexFunc_api_Ext_11 ac_slices_IndexFunc_api_Ext_12
def ac_slices_IndexFunc_api_Ext_14 : AC := .seq ac_slices_IndexFunc_api_Ext_3 ac_slices_IndexFunc_api_Ext_13
def ac_slices_IndexFunc_api_Ext_15 : AC := .seq ac_slices_IndexFunc_api_Ext_2 ac_slices_IndexFunc_api_Ext_14
def ac_slices_IndexFunc_api_Ext_16 : AC := .loop [0, 1, 7, 8] 0 ac_slices_IndexFunc_api_Ext_15
def ac_slices_IndexFunc_api_Ext_17 : AC := .block 0 ac_slices_IndexFunc_api_Ext_16
def ac_slices_IndexFunc_api_Ext_18 : AC := .seq ac_slices_IndexFunc_api_Ext_1 ac_slices_IndexFunc_api_Ext_17
def l_slices_IndexFunc_api_Ext_19 : List AOp := [⟨(some 4), .mv (.k (.int .i64 (-1))), none, none, [], none⟩]
def ac_slices_IndexFunc_api_Ext_19 : AC := .reg l_slices_IndexFunc_api_Ext_19
def ac_slices_IndexFunc_api_Ext_20 : AC := .seq ac_slices_IndexFunc_api_Ext_19 .ret
def ac_slices_IndexFunc_api_Ext_21 : AC := .seq ac_slices_IndexFunc_api_Ext_18 ac_slices_IndexFunc_api_Ext_20
def ac_slices_IndexFunc_api_Ext_22 : AC := .seq ac_slices_IndexFunc_api_Ext_0 ac_slices_IndexFunc_api_Ext_21
def ac_slices_IndexFunc_api_Ext : AC := ac_slices_IndexFunc_api_Ext_22
theorem comp_slices_IndexFunc_api_Ext : compF Try.prog [] (drawR Try.prog [] Try.f55.ntmps) [([0, 1, 7, 8], 0)] 2 Try.f55 = some (ac_slices_IndexFunc_api_Ext, [.t 4]) := by kernel_rfl
def U_slices_IndexFunc_api_Ext := (And.intro (And.intro (And.intro (And.intro (And.intro @ac_slices_IndexFunc_api_Ext.eq_1 (@mR _ _ ac_slices_IndexFunc_api_Ext_0.eq_1)) (And.intro (@mR _ _ ac_slices_IndexFunc_api_Ext_1.eq_1) (@mR _ _ ac_slices_IndexFunc_api_Ext_2.eq_1))) (And.intro (And.intro (@mU _ _ ac_slices_IndexFunc_api_Ext_3.eq_1) (@mR _ _ ac_slices_IndexFunc_api_Ext_4.eq_1)) (And.intro (@mR _ _ ac_slices_IndexFunc_api_Ext_5.eq_1) (@mR _ _ ac_slices_IndexFunc_api_Ext_6.eq_1)))) (And.intro (And.intro (And.intro (@mU _ _ ac_slices_IndexFunc_api_Ext_7.eq_1) (@mU _ _ ac_slices_IndexFunc_api_Ext_8.eq_1)) (And.intro (@mU _ _ ac_slices_IndexFunc_api_Ext_9.eq_1) (@mU _ _ ac_slices_IndexFunc_api_Ext_10.eq_1))) (And.intro (And.intro (@mU _ _ ac_slices_IndexFunc_api_Ext_11.eq_1) (@mR _ _ ac_slices_IndexFunc_api_Ext_12.eq_1)) (And.intro (@mU _ _ ac_slices_IndexFunc_api_Ext_13.eq_1) (@mU _ _ ac_slices_IndexFunc_api_Ext_14.eq_1))))) (And.intro (And.intro (And.intro (And.intro (@mU _ _ ac_slices_IndexFunc_api_Ext_15.eq_1) (@mU _ _ ac_slices_IndexFunc_api_Ext_16.eq_1)) (And.intro (@mU _ _ ac_slices_IndexFunc_api_Ext_17.eq_1) (@mU _ _ ac_slices_IndexFunc_api_Ext_18.eq_1))) (And.intro (And.intro (@mR _ _ ac_slices_IndexFunc_api_Ext_19.eq_1) (@mU _ _ ac_slices_IndexFunc_api_Ext_20.eq_1)) (And.intro (@mU _ _ ac_slices_IndexFunc_api_Ext_21.eq_1) (@mU _ _ ac_slices_IndexFunc_api_Ext_22.eq_1)))) (And.intro (And.intro (And.intro @l_slices_IndexFunc_api_Ext_0.eq_1 @l_slices_IndexFunc_api_Ext_1.eq_1) (And.intro @l_slices_IndexFunc_api_Ext_2.eq_1 @l_slices_IndexFunc_api_Ext_4.eq_1)) (And.intro (And.intro @l_slices_IndexFunc_api_Ext_5.eq_1 @l_slices_IndexFunc_api_Ext_6.eq_1) (And.intro @l_slices_IndexFunc_api_Ext_12.eq_1 @l_slices_IndexFunc_api_Ext_19.eq_1)))))

/- slices.ContainsFunc[[]int,int] -/
def l_slices_ContainsFunc_int_0 : List AOp := [⟨(some 4), .mv (.k (.bool false)), none, none, [], none⟩]
def ac_slices_ContainsFunc_int_0 : AC := .reg l_slices_ContainsFunc_int_0
def l_slices_ContainsFunc_int_1 : List AOp := [⟨(some 5), .mv (.t 0), none, none, [], none⟩,
  ⟨(some 6), .mv (.t 1), none, none, [], none⟩,
  ⟨(some 7), .call false 68 [(.t 5), (.t 6)], none, none, [], none⟩,
  ⟨(some 8), .bin .geq (.t 7) (.k (.int .i64 0)), none, none, [], none⟩,
  ⟨(some 4), .mv (.t 8), none, none, [], none⟩]
def ac_slices_ContainsFunc_int_1 : AC := .reg l_slices_ContainsFunc_int_1
def ac_slices_ContainsFunc_int_2 : AC := .seq ac_slices_ContainsFunc_int_1 .ret
def ac_slices_ContainsFunc_int_3 : AC := .seq ac_slices_ContainsFunc_int_0 ac_slices_ContainsFunc_int_2
def ac_slices_ContainsFunc_int : AC := ac_slices_ContainsFunc_int_3
theorem comp_slices_ContainsFunc_int : compF Try.prog [] (drawR Try.prog [] Try.f56.ntmps) [] 2 Try.f56 = some (ac_slices_ContainsFunc_int, [.t 4]) := by kernel_rfl
def U_slices_ContainsFunc_int := (And.intro (And.intro (And.intro @ac_slices_ContainsFunc_int.eq_1 (@mR _ _ ac_slices_ContainsFunc_int_0.eq_1)) (And.intro (@mR _ _ ac_slices_ContainsFunc_int_1.eq_1) (@mU _ _ ac_slices_ContainsFunc_int_2.eq_1))) (And.intro (And.intro (@mU _ _ ac_slices_ContainsFunc_int_3.eq_1) @l_slices_ContainsFunc_int_0.eq_1) @l_slices_ContainsFunc_int_1.eq_1))

/- scoria/field.wrong -/
def l_field_wrong_0 : List AOp := [⟨(some 2), .mv (.k (.bool false)), none, none, [], none⟩]
def ac_field_wrong_0 : AC := .reg l_field_wrong_0
def l_field_wrong_1 : List AOp := [⟨(some 3), .mv (.t 0), none, none, [], none⟩,
  ⟨(some 4), .call false 69 [(.t 3)], none, none, [], none⟩,
  ⟨(some 5), .un .not (.t 4), none, none, [], none⟩,
  ⟨(some 2), .mv (.t 5), none, none, [], none⟩]
def ac_field_wrong_1 : AC := .reg l_field_wrong_1
def ac_field_wrong_2 : AC := .seq ac_field_wrong_1 .ret
def ac_field_wrong_3 : AC := .seq ac_field_wrong_0 ac_field_wrong_2
def ac_field_wrong : AC := ac_field_wrong_3
theorem comp_field_wrong : compF Try.prog [] (drawR Try.prog [] Try.f57.ntmps) [] 1 Try.f57 = some (ac_field_wrong, [.t 2]) := by kernel_rfl
def U_field_wrong := (And.intro (And.intro (And.intro @ac_field_wrong.eq_1 (@mR _ _ ac_field_wrong_0.eq_1)) (And.intro (@mR _ _ ac_field_wrong_1.eq_1) (@mU _ _ ac_field_wrong_2.eq_1))) (And.intro (And.intro (@mU _ _ ac_field_wrong_3.eq_1) @l_field_wrong_0.eq_1) @l_field_wrong_1.eq_1))

/- scoria/field.fits -/
def l_field_fits_0 : List AOp := [⟨(some 4), .mv (.k (.bool false)), none, none, [], none⟩]
def ac_field_fits_0 : AC := .reg l_field_fits_0
def l_field_fits_1 : List AOp := [⟨(some 5), .mv (.t 1), none, none, [], none⟩,
  ⟨(some 6), .bin .eql (.t 5) (.k (.int .i64 8)), none, none, [], none⟩,
  ⟨(some 7), .mv (.t 6), none, none, [], none⟩,
  ⟨(some 8), .mv (.t 0), (some (7, false)), none, [], none⟩,
  ⟨(some 9), .mv (.t 1), (some (7, false)), none, [], none⟩,
  ⟨(some 10), .bin .mul (.k (.int .i64 8)) (.t 9), (some (7, false)), none, [], none⟩,
  ⟨(some 11), .bin .shr (.t 8) (.t 10), (some (7, false)), none, [], none⟩,
  ⟨(some 12), .bin .eql (.t 11) (.k (.int .u64 0)), (some (7, false)), none, [], none⟩,
  ⟨(some 13), .pick (.t 7) (.k (.bool true)) (.t 12), none, none, [], none⟩,
  ⟨(some 4), .mv (.t 13), none, none, [], none⟩]
def ac_field_fits_1 : AC := .reg l_field_fits_1
def ac_field_fits_2 : AC := .seq ac_field_fits_1 .ret
def ac_field_fits_3 : AC := .seq ac_field_fits_0 ac_field_fits_2
def ac_field_fits : AC := ac_field_fits_3
theorem comp_field_fits : compF Try.prog [] (drawR Try.prog [] Try.f58.ntmps) [] 2 Try.f58 = some (ac_field_fits, [.t 4]) := by kernel_rfl
def U_field_fits := (And.intro (And.intro (And.intro @ac_field_fits.eq_1 (@mR _ _ ac_field_fits_0.eq_1)) (And.intro (@mR _ _ ac_field_fits_1.eq_1) (@mU _ _ ac_field_fits_2.eq_1))) (And.intro (And.intro (@mU _ _ ac_field_fits_3.eq_1) @l_field_fits_0.eq_1) @l_field_fits_1.eq_1))

/- (*strings.Builder).WriteString -/
def l_strings_Builder_WriteString_0 : List AOp := [⟨(some 4), .mv (.k (.int .i64 0)), none, none, [], none⟩,
  ⟨(some 5), .mv (.k .nili), none, none, [], none⟩]
def ac_strings_Builder_WriteString_0 : AC := .reg l_strings_Builder_WriteString_0
def l_strings_Builder_WriteString_1 : List AOp := [⟨(some 6), .mv (.t 0), none, none, [], none⟩,
  ⟨(some 7), .icall 70 [(.t 6)], none, none, [], none⟩]
def ac_strings_Builder_WriteString_1 : AC := .reg l_strings_Builder_WriteString_1
def l_strings_Builder_WriteString_2 : List AOp := [⟨(some 8), .mv (.t 0), none, none, [], none⟩,
  ⟨(some 9), .mv (.t 0), none, none, [], none⟩,
  ⟨(some 10), .nilck (.t 9), none, none, [], none⟩,
  ⟨(some 11), .faddr 1 (.t 10), none, none, [], none⟩,
  ⟨(some 12), .load none (.t 11), none, none, [], none⟩,
  ⟨(some 13), .mv (.t 1), none, none, [], none⟩,
  ⟨(some 14), .apps 5 (.t 12) (.t 13), none, none, [], none⟩,
  ⟨(some 15), .nilck (.t 8), none, none, [], none⟩,
  ⟨(some 16), .faddr 1 (.t 15), none, none, [], none⟩,
  ⟨none, .store 1 (.t 16) (.t 14), none, none, [], none⟩]
def ac_strings_Builder_WriteString_2 : AC := .reg l_strings_Builder_WriteString_2
def l_strings_Builder_WriteString_3 : List AOp := [⟨(some 17), .mv (.t 1), none, none, [], none⟩,
  ⟨(some 18), .lens (.t 17), none, none, [], none⟩,
  ⟨(some 4), .mv (.t 18), none, none, [], none⟩,
  ⟨(some 5), .mv (.k .nili), none, none, [], none⟩]
def ac_strings_Builder_WriteString_3 : AC := .reg l_strings_Builder_WriteString_3
def ac_strings_Builder_WriteString_4 : AC := .seq ac_strings_Builder_WriteString_3 .ret
def ac_strings_Builder_WriteString_5 : AC := .seq ac_strings_Builder_WriteString_2 ac_strings_Builder_WriteString_4
def ac_strings_Builder_WriteString_6 : AC := .seq ac_strings_Builder_WriteString_1 ac_strings_Builder_WriteString_5
def ac_strings_Builder_WriteString_7 : AC := .seq ac_strings_Builder_WriteString_0 ac_strings_Builder_WriteString_6
def ac_strings_Builder_WriteString : AC := ac_strings_Builder_WriteString_7
theorem comp_strings_Builder_WriteString : compF Try.prog [1000070] (drawR Try.prog [1000070] Try.f59.ntmps) [] 2 Try.f59 = some (ac_strings_Builder_WriteString, [.t 4, .t 5]) := by kernel_rfl
def U_strings_Builder_WriteString := (And.intro (And.intro (And.intro (And.intro @ac_strings_Builder_WriteString.eq_1 (@mR _ _ ac_strings_Builder_WriteString_0.eq_1)) (And.intro (@mR _ _ ac_strings_Builder_WriteString_1.eq_1) (@mR _ _ ac_strings_Builder_WriteString_2.eq_1))) (And.intro (And.intro (@mR _ _ ac_strings_Builder_WriteString_3.eq_1) (@mU _ _ ac_strings_Builder_WriteString_4.eq_1)) (@mU _ _ ac_strings_Builder_WriteString_5.eq_1))) (And.intro (And.intro (And.intro (@mU _ _ ac_strings_Builder_WriteString_6.eq_1) (@mU _ _ ac_strings_Builder_WriteString_7.eq_1)) @l_strings_Builder_WriteString_0.eq_1) (And.intro (And.intro @l_strings_Builder_WriteString_1.eq_1 @l_strings_Builder_WriteString_2.eq_1) @l_strings_Builder_WriteString_3.eq_1)))

/- scoria/field.laid -/
def l_field_laid_0 : List AOp := [⟨(some 4), .mv (.k (.str [])), none, none, [], none⟩]
def ac_field_laid_0 : AC := .reg l_field_laid_0
def l_field_laid_1 : List AOp := [⟨(some 5), .alloc (List.replicate 8 (.int .u8 0)), none, none, [], none⟩]
def ac_field_laid_1 : AC := .reg l_field_laid_1
def l_field_laid_2 : List AOp := [⟨(some 6), .mv (.t 1), none, none, [], none⟩]
def ac_field_laid_2 : AC := .reg l_field_laid_2
def l_field_laid_3 : List AOp := [⟨(some 8), .bin .eql (.t 6) (.k (.int .i64 8)), none, none, [], none⟩,
  ⟨(some 7), .mv (.t 8), none, none, [], none⟩]
def ac_field_laid_3 : AC := .reg l_field_laid_3
def ac_field_laid_4 : AC := .cond (.t 7) (.exit 1) .skip
def ac_field_laid_5 : AC := .seq ac_field_laid_3 ac_field_laid_4
def l_field_laid_6 : List AOp := [⟨(some 10), .bin .eql (.t 6) (.k (.int .i64 7)), none, none, [], none⟩,
  ⟨(some 9), .mv (.t 10), none, none, [], none⟩]
def ac_field_laid_6 : AC := .reg l_field_laid_6
def ac_field_laid_7 : AC := .cond (.t 9) (.exit 2) .skip
def ac_field_laid_8 : AC := .seq ac_field_laid_6 ac_field_laid_7
def l_field_laid_9 : List AOp := [⟨(some 12), .bin .eql (.t 6) (.k (.int .i64 6)), none, none, [], none⟩,
  ⟨(some 11), .mv (.t 12), none, none, [], none⟩]
def ac_field_laid_9 : AC := .reg l_field_laid_9
def ac_field_laid_10 : AC := .cond (.t 11) (.exit 3) .skip
def ac_field_laid_11 : AC := .seq ac_field_laid_9 ac_field_laid_10
def l_field_laid_12 : List AOp := [⟨(some 14), .bin .eql (.t 6) (.k (.int .i64 5)), none, none, [], none⟩,
  ⟨(some 13), .mv (.t 14), none, none, [], none⟩]
def ac_field_laid_12 : AC := .reg l_field_laid_12
def ac_field_laid_13 : AC := .cond (.t 13) (.exit 4) .skip
def ac_field_laid_14 : AC := .seq ac_field_laid_12 ac_field_laid_13
def l_field_laid_15 : List AOp := [⟨(some 16), .bin .eql (.t 6) (.k (.int .i64 4)), none, none, [], none⟩,
  ⟨(some 15), .mv (.t 16), none, none, [], none⟩]
def ac_field_laid_15 : AC := .reg l_field_laid_15
def ac_field_laid_16 : AC := .cond (.t 15) (.exit 5) .skip
def ac_field_laid_17 : AC := .seq ac_field_laid_15 ac_field_laid_16
def l_field_laid_18 : List AOp := [⟨(some 18), .bin .eql (.t 6) (.k (.int .i64 3)), none, none, [], none⟩,
  ⟨(some 17), .mv (.t 18), none, none, [], none⟩]
def ac_field_laid_18 : AC := .reg l_field_laid_18
def ac_field_laid_19 : AC := .cond (.t 17) (.exit 6) .skip
def ac_field_laid_20 : AC := .seq ac_field_laid_18 ac_field_laid_19
def l_field_laid_21 : List AOp := [⟨(some 20), .bin .eql (.t 6) (.k (.int .i64 2)), none, none, [], none⟩,
  ⟨(some 19), .mv (.t 20), none, none, [], none⟩]
def ac_field_laid_21 : AC := .reg l_field_laid_21
def ac_field_laid_22 : AC := .cond (.t 19) (.exit 7) .skip
def ac_field_laid_23 : AC := .seq ac_field_laid_21 ac_field_laid_22
def l_field_laid_24 : List AOp := [⟨(some 22), .bin .eql (.t 6) (.k (.int .i64 1)), none, none, [], none⟩,
  ⟨(some 21), .mv (.t 22), none, none, [], none⟩]
def ac_field_laid_24 : AC := .reg l_field_laid_24
def ac_field_laid_25 : AC := .cond (.t 21) (.exit 8) .skip
def ac_field_laid_26 : AC := .seq ac_field_laid_24 ac_field_laid_25
def ac_field_laid_27 : AC := .seq ac_field_laid_23 ac_field_laid_26
def ac_field_laid_28 : AC := .seq ac_field_laid_20 ac_field_laid_27
def ac_field_laid_29 : AC := .seq ac_field_laid_17 ac_field_laid_28
def ac_field_laid_30 : AC := .seq ac_field_laid_14 ac_field_laid_29
def ac_field_laid_31 : AC := .seq ac_field_laid_11 ac_field_laid_30
def ac_field_laid_32 : AC := .seq ac_field_laid_8 ac_field_laid_31
def ac_field_laid_33 : AC := .seq ac_field_laid_5 ac_field_laid_32
def ac_field_laid_34 : AC := .seq ac_field_laid_33 (.exit 0)
def ac_field_laid_35 : AC := .block 1 ac_field_laid_34
def l_field_laid_36 : List AOp := [⟨(some 23), .mv (.t 0), none, none, [], none⟩,
  ⟨(some 24), .bin .shr (.t 23) (.k (.int .u64 56)), none, none, [], none⟩,
  ⟨(some 25), .conv .u8 (.t 24), none, none, [], none⟩,
  ⟨(some 26), .iarr 1 8 (.t 5) (.k (.int .i64 7)), none, none, [], none⟩,
  ⟨none, .store 1 (.t 26) (.t 25), none, none, [], none⟩]
def ac_field_laid_36 : AC := .reg l_field_laid_36
def ac_field_laid_37 : AC := .seq ac_field_laid_35 ac_field_laid_36
def ac_field_laid_38 : AC := .block 2 ac_field_laid_37
def l_field_laid_39 : List AOp := [⟨(some 27), .mv (.t 0), none, none, [], none⟩,
  ⟨(some 28), .bin .shr (.t 27) (.k (.int .u64 48)), none, none, [], none⟩,
  ⟨(some 29), .conv .u8 (.t 28), none, none, [], none⟩,
  ⟨(some 30), .iarr 1 8 (.t 5) (.k (.int .i64 6)), none, none, [], none⟩,
  ⟨none, .store 1 (.t 30) (.t 29), none, none, [], none⟩]
def ac_field_laid_39 : AC := .reg l_field_laid_39
def ac_field_laid_40 : AC := .seq ac_field_laid_38 ac_field_laid_39
def ac_field_laid_41 : AC := .block 3 ac_field_laid_40
def l_field_laid_42 : List AOp := [⟨(some 31), .mv (.t 0), none, none, [], none⟩,
  ⟨(some 32), .bin .shr (.t 31) (.k (.int .u64 40)), none, none, [], none⟩,
  ⟨(some 33), .conv .u8 (.t 32), none, none, [], none⟩,
  ⟨(some 34), .iarr 1 8 (.t 5) (.k (.int .i64 5)), none, none, [], none⟩,
  ⟨none, .store 1 (.t 34) (.t 33), none, none, [], none⟩]
def ac_field_laid_42 : AC := .reg l_field_laid_42
def ac_field_laid_43 : AC := .seq ac_field_laid_41 ac_field_laid_42
def ac_field_laid_44 : AC := .block 4 ac_field_laid_43
def l_field_laid_45 : List AOp := [⟨(some 35), .mv (.t 0), none, none, [], none⟩,
  ⟨(some 36), .bin .shr (.t 35) (.k (.int .u64 32)), none, none, [], none⟩,
  ⟨(some 37), .conv .u8 (.t 36), none, none, [], none⟩,
  ⟨(some 38), .iarr 1 8 (.t 5) (.k (.int .i64 4)), none, none, [], none⟩,
  ⟨none, .store 1 (.t 38) (.t 37), none, none, [], none⟩]
def ac_field_laid_45 : AC := .reg l_field_laid_45
def ac_field_laid_46 : AC := .seq ac_field_laid_44 ac_field_laid_45
def ac_field_laid_47 : AC := .block 5 ac_field_laid_46
def l_field_laid_48 : List AOp := [⟨(some 39), .mv (.t 0), none, none, [], none⟩,
  ⟨(some 40), .bin .shr (.t 39) (.k (.int .u64 24)), none, none, [], none⟩,
  ⟨(some 41), .conv .u8 (.t 40), none, none, [], none⟩,
  ⟨(some 42), .iarr 1 8 (.t 5) (.k (.int .i64 3)), none, none, [], none⟩,
  ⟨none, .store 1 (.t 42) (.t 41), none, none, [], none⟩]
def ac_field_laid_48 : AC := .reg l_field_laid_48
def ac_field_laid_49 : AC := .seq ac_field_laid_47 ac_field_laid_48
def ac_field_laid_50 : AC := .block 6 ac_field_laid_49
def l_field_laid_51 : List AOp := [⟨(some 43), .mv (.t 0), none, none, [], none⟩,
  ⟨(some 44), .bin .shr (.t 43) (.k (.int .u64 16)), none, none, [], none⟩,
  ⟨(some 45), .conv .u8 (.t 44), none, none, [], none⟩,
  ⟨(some 46), .iarr 1 8 (.t 5) (.k (.int .i64 2)), none, none, [], none⟩,
  ⟨none, .store 1 (.t 46) (.t 45), none, none, [], none⟩]
def ac_field_laid_51 : AC := .reg l_field_laid_51
def ac_field_laid_52 : AC := .seq ac_field_laid_50 ac_field_laid_51
def ac_field_laid_53 : AC := .block 7 ac_field_laid_52
def l_field_laid_54 : List AOp := [⟨(some 47), .mv (.t 0), none, none, [], none⟩,
  ⟨(some 48), .bin .shr (.t 47) (.k (.int .u64 8)), none, none, [], none⟩,
  ⟨(some 49), .conv .u8 (.t 48), none, none, [], none⟩,
  ⟨(some 50), .iarr 1 8 (.t 5) (.k (.int .i64 1)), none, none, [], none⟩,
  ⟨none, .store 1 (.t 50) (.t 49), none, none, [], none⟩]
def ac_field_laid_54 : AC := .reg l_field_laid_54
def ac_field_laid_55 : AC := .seq ac_field_laid_53 ac_field_laid_54
def ac_field_laid_56 : AC := .block 8 ac_field_laid_55
def l_field_laid_57 : List AOp := [⟨(some 51), .mv (.t 0), none, none, [], none⟩,
  ⟨(some 52), .conv .u8 (.t 51), none, none, [], none⟩,
  ⟨(some 53), .iarr 1 8 (.t 5) (.k (.int .i64 0)), none, none, [], none⟩,
  ⟨none, .store 1 (.t 53) (.t 52), none, none, [], none⟩]
def ac_field_laid_57 : AC := .reg l_field_laid_57
def ac_field_laid_58 : AC := .seq ac_field_laid_57 (.exit 0)
def ac_field_laid_59 : AC := .seq ac_field_laid_56 ac_field_laid_58
def ac_field_laid_60 : AC := .block 0 ac_field_laid_59
def ac_field_laid_61 : AC := .seq ac_field_laid_2 ac_field_laid_60
def l_field_laid_62 : List AOp := [⟨(some 54), .mv (.t 1), none, none, [], none⟩,
  ⟨(some 55), .sarr 1 8 (.t 5) none (some (.t 54)), none, none, [], none⟩,
  ⟨(some 56), .b2s (.t 55), none, none, [], none⟩,
  ⟨(some 4), .mv (.t 56), none, none, [], none⟩]
def ac_field_laid_62 : AC := .reg l_field_laid_62
def ac_field_laid_63 : AC := .seq ac_field_laid_62 .ret
def ac_field_laid_64 : AC := .seq ac_field_laid_61 ac_field_laid_63
def ac_field_laid_65 : AC := .seq ac_field_laid_1 ac_field_laid_64
def ac_field_laid_66 : AC := .seq ac_field_laid_0 ac_field_laid_65
def ac_field_laid : AC := ac_field_laid_66
theorem comp_field_laid : compF Try.prog [] (drawR Try.prog [] Try.f60.ntmps) [] 2 Try.f60 = some (ac_field_laid, [.t 4]) := by kernel_rfl
def U_field_laid := (And.intro (And.intro (And.intro (And.intro (And.intro (And.intro (And.intro @ac_field_laid.eq_1 (@mR _ _ ac_field_laid_0.eq_1)) (@mR _ _ ac_field_laid_1.eq_1)) (And.intro (And.intro (@mR _ _ ac_field_laid_2.eq_1) (@mR _ _ ac_field_laid_3.eq_1)) (@mU _ _ ac_field_laid_4.eq_1))) (And.intro (And.intro (And.intro (@mU _ _ ac_field_laid_5.eq_1) (@mR _ _ ac_field_laid_6.eq_1)) (@mU _ _ ac_field_laid_7.eq_1)) (And.intro (@mU _ _ ac_field_laid_8.eq_1) (@mR _ _ ac_field_laid_9.eq_1)))) (And.intro (And.intro (And.intro (And.intro (@mU _ _ ac_field_laid_10.eq_1) (@mU _ _ ac_field_laid_11.eq_1)) (@mR _ _ ac_field_laid_12.eq_1)) (And.intro (And.intro (@mU _ _ ac_field_laid_13.eq_1) (@mU _ _ ac_field_laid_14.eq_1)) (@mR _ _ ac_field_laid_15.eq_1))) (And.intro (And.intro (And.intro (@mU _ _ ac_field_laid_16.eq_1) (@mU _ _ ac_field_laid_17.eq_1)) (@mR _ _ ac_field_laid_18.eq_1)) (And.intro (@mU _ _ ac_field_laid_19.eq_1) (@mU _ _ ac_field_laid_20.eq_1))))) (And.intro (And.intro (And.intro (And.intro (And.intro (@mR _ _ ac_field_laid_21.eq_1) (@mU _ _ ac_field_laid_22.eq_1)) (@mU _ _ ac_field_laid_23.eq_1)) (And.intro (And.intro (@mR _ _ ac_field_laid_24.eq_1) (@mU _ _ ac_field_laid_25.eq_1)) (@mU _ _ ac_field_laid_26.eq_1))) (And.intro (And.intro (And.intro (@mU _ _ ac_field_laid_27.eq_1) (@mU _ _ ac_field_laid_28.eq_1)) (@mU _ _ ac_field_laid_29.eq_1)) (And.intro (@mU _ _ ac_field_laid_30.eq_1) (@mU _ _ ac_field_laid_31.eq_1)))) (And.intro (And.intro (And.intro (And.intro (@mU _ _ ac_field_laid_32.eq_1) (@mU _ _ ac_field_laid_33.eq_1)) (@mU _ _ ac_field_laid_34.eq_1)) (And.intro (And.intro (@mU _ _ ac_field_laid_35.eq_1) (@mR _ _ ac_field_laid_36.eq_1)) (@mU _ _ ac_field_laid_37.eq_1))) (And.intro (And.intro (And.intro (@mU _ _ ac_field_laid_38.eq_1) (@mR _ _ ac_field_laid_39.eq_1)) (@mU _ _ ac_field_laid_40.eq_1)) (And.intro (@mU _ _ ac_field_laid_41.eq_1) (@mR _ _ ac_field_laid_42.eq_1)))))) (And.intro (And.intro (And.intro (And.intro (And.intro (And.intro (@mU _ _ ac_field_laid_43.eq_1) (@mU _ _ ac_field_laid_44.eq_1)) (@mR _ _ ac_field_laid_45.eq_1)) (And.intro (And.intro (@mU _ _ ac_field_laid_46.eq_1) (@mU _ _ ac_field_laid_47.eq_1)) (@mR _ _ ac_field_laid_48.eq_1))) (And.intro (And.intro (And.intro (@mU _ _ ac_field_laid_49.eq_1) (@mU _ _ ac_field_laid_50.eq_1)) (@mR _ _ ac_field_laid_51.eq_1)) (And.intro (@mU _ _ ac_field_laid_52.eq_1) (@mU _ _ ac_field_laid_53.eq_1)))) (And.intro (And.intro (And.intro (And.intro (@mR _ _ ac_field_laid_54.eq_1) (@mU _ _ ac_field_laid_55.eq_1)) (@mU _ _ ac_field_laid_56.eq_1)) (And.intro (And.intro (@mR _ _ ac_field_laid_57.eq_1) (@mU _ _ ac_field_laid_58.eq_1)) (@mU _ _ ac_field_laid_59.eq_1))) (And.intro (And.intro (And.intro (@mU _ _ ac_field_laid_60.eq_1) (@mU _ _ ac_field_laid_61.eq_1)) (@mR _ _ ac_field_laid_62.eq_1)) (And.intro (@mU _ _ ac_field_laid_63.eq_1) (@mU _ _ ac_field_laid_64.eq_1))))) (And.intro (And.intro (And.intro (And.intro (And.intro (@mU _ _ ac_field_laid_65.eq_1) (@mU _ _ ac_field_laid_66.eq_1)) @l_field_laid_0.eq_1) (And.intro (And.intro @l_field_laid_1.eq_1 @l_field_laid_2.eq_1) @l_field_laid_3.eq_1)) (And.intro (And.intro (And.intro @l_field_laid_6.eq_1 @l_field_laid_9.eq_1) @l_field_laid_12.eq_1) (And.intro @l_field_laid_15.eq_1 @l_field_laid_18.eq_1))) (And.intro (And.intro (And.intro (And.intro @l_field_laid_21.eq_1 @l_field_laid_24.eq_1) @l_field_laid_36.eq_1) (And.intro (And.intro @l_field_laid_39.eq_1 @l_field_laid_42.eq_1) @l_field_laid_45.eq_1)) (And.intro (And.intro (And.intro @l_field_laid_48.eq_1 @l_field_laid_51.eq_1) @l_field_laid_54.eq_1) (And.intro @l_field_laid_57.eq_1 @l_field_laid_62.eq_1))))))

/- (*strings.Builder).String -/
def l_strings_Builder_String_0 : List AOp := [⟨(some 2), .mv (.k (.str [])), none, none, [], none⟩]
def ac_strings_Builder_String_0 : AC := .reg l_strings_Builder_String_0
def l_strings_Builder_String_1 : List AOp := [⟨(some 3), .mv (.t 0), none, none, [], none⟩,
  ⟨(some 4), .nilck (.t 3), none, none, [], none⟩,
  ⟨(some 5), .faddr 1 (.t 4), none, none, [], none⟩,
  ⟨(some 6), .load none (.t 5), none, none, [], none⟩,
  ⟨(some 7), .usd (.t 6), none, none, [], none⟩,
  ⟨(some 8), .mv (.t 0), none, none, [], none⟩,
  ⟨(some 9), .nilck (.t 8), none, none, [], none⟩,
  ⟨(some 10), .faddr 1 (.t 9), none, none, [], none⟩,
  ⟨(some 11), .load none (.t 10), none, none, [], none⟩,
  ⟨(some 12), .len (.t 11), none, none, [], none⟩,
  ⟨(some 13), .ust 5 (.t 7) (.t 12), none, none, [], none⟩,
  ⟨(some 2), .mv (.t 13), none, none, [], none⟩]
def ac_strings_Builder_String_1 : AC := .dreg 0 l_strings_Builder_String_1
def ac_strings_Builder_String_2 : AC := .seq ac_strings_Builder_String_1 .ret
def ac_strings_Builder_String_3 : AC := .seq ac_strings_Builder_String_0 ac_strings_Builder_String_2
def ac_strings_Builder_String : AC := ac_strings_Builder_String_3
theorem comp_strings_Builder_String : compF Try.prog [] (drawR Try.prog [] Try.f61.ntmps) [] 1 Try.f61 = some (ac_strings_Builder_String, [.t 2]) := by kernel_rfl
def U_strings_Builder_String := (And.intro (And.intro (And.intro @ac_strings_Builder_String.eq_1 (@mR _ _ ac_strings_Builder_String_0.eq_1)) (And.intro (@mD _ _ _ ac_strings_Builder_String_1.eq_1) (@mU _ _ ac_strings_Builder_String_2.eq_1))) (And.intro (And.intro (@mU _ _ ac_strings_Builder_String_3.eq_1) @l_strings_Builder_String_0.eq_1) @l_strings_Builder_String_1.eq_1))

/- scoria/scoriaref07.One -/
def l_ref07_One_0 : List AOp := [⟨(some 1), .box (.t 0), none, none, [], none⟩,
  ⟨(some 2), .mv (.k (.bool false)), none, none, [], none⟩]
def ac_ref07_One_0 : AC := .reg l_ref07_One_0
def l_ref07_One_1 : List AOp := [⟨(some 3), .faddr 0 (.t 1), none, none, [], none⟩,
  ⟨(some 4), .load none (.t 3), none, none, [], none⟩,
  ⟨(some 5), .faddr 1 (.t 1), none, none, [], none⟩,
  ⟨(some 6), .load none (.t 5), none, none, [], none⟩,
  ⟨(some 7), .call false 71 [(.t 4), (.t 6)], none, none, [], none⟩,
  ⟨(some 8), .un .not (.t 7), none, none, [], none⟩,
  ⟨(some 9), .mv (.t 8), none, none, [], none⟩,
  ⟨(some 10), .faddr 1 (.t 1), (some (9, false)), none, [], none⟩,
  ⟨(some 11), .load none (.t 10), (some (9, false)), none, [], none⟩,
  ⟨(some 12), .bin .eql (.t 11) (.k (.int .i64 0)), (some (9, false)), none, [], none⟩,
  ⟨(some 13), .pick (.t 9) (.k (.bool true)) (.t 12), none, none, [], none⟩]
def ac_ref07_One_1 : AC := .reg l_ref07_One_1
def l_ref07_One_2 : List AOp := [⟨(some 2), .mv (.k (.bool false)), none, none, [], none⟩]
def ac_ref07_One_2 : AC := .reg l_ref07_One_2
def ac_ref07_One_3 : AC := .seq ac_ref07_One_2 .ret
def ac_ref07_One_4 : AC := .cond (.t 13) ac_ref07_One_3 .skip
def ac_ref07_One_5 : AC := .seq ac_ref07_One_1 ac_ref07_One_4
def l_ref07_One_6 : List AOp := [⟨(some 14), .faddr 2 (.t 1), none, none, [], none⟩,
  ⟨(some 15), .load none (.t 14), none, none, [], none⟩,
  ⟨(some 16), .bin .eql (.t 15) (.k (.int .i64 1)), none, none, [], none⟩]
def ac_ref07_One_6 : AC := .reg l_ref07_One_6
def l_ref07_One_7 : List AOp := [⟨(some 17), .faddr 3 (.t 1), none, none, [], none⟩,
  ⟨(some 18), .load none (.t 17), none, none, [], none⟩,
  ⟨(some 19), .bin .eql (.t 18) (.k (.int .i64 0)), none, none, [], none⟩,
  ⟨(some 2), .mv (.t 19), none, none, [], none⟩]
def ac_ref07_One_7 : AC := .reg l_ref07_One_7
def ac_ref07_One_8 : AC := .seq ac_ref07_One_7 .ret
def ac_ref07_One_9 : AC := .cond (.t 16) ac_ref07_One_8 .skip
def ac_ref07_One_10 : AC := .seq ac_ref07_One_6 ac_ref07_One_9
def l_ref07_One_11 : List AOp := [⟨(some 20), .faddr 2 (.t 1), none, none, [], none⟩,
  ⟨(some 21), .load none (.t 20), none, none, [], none⟩,
  ⟨(some 22), .bin .eql (.t 21) (.k (.int .i64 2)), none, none, [], none⟩,
  ⟨(some 23), .mv (.t 22), none, none, [], none⟩,
  ⟨(some 24), .faddr 3 (.t 1), (some (23, true)), none, [], none⟩,
  ⟨(some 25), .load none (.t 24), (some (23, true)), none, [], none⟩,
  ⟨(some 26), .bin .geq (.t 25) (.k (.int .i64 0)), (some (23, true)), none, [], none⟩,
  ⟨(some 27), .pick (.t 23) (.t 26) (.k (.bool false)), none, none, [], none⟩,
  ⟨(some 28), .mv (.t 27), none, none, [], none⟩,
  ⟨(some 29), .faddr 3 (.t 1), (some (28, true)), none, [], none⟩,
  ⟨(some 30), .load none (.t 29), (some (28, true)), none, [], none⟩,
  ⟨(some 31), .bin .leq (.t 30) (.k (.int .i64 2048)), (some (28, true)), none, [], none⟩,
  ⟨(some 32), .pick (.t 28) (.t 31) (.k (.bool false)), none, none, [], none⟩,
  ⟨(some 33), .mv (.t 32), none, none, [], none⟩,
  ⟨(some 34), .faddr 1 (.t 1), (some (33, true)), none, [], none⟩,
  ⟨(some 35), .load none (.t 34), (some (33, true)), none, [], none⟩,
  ⟨(some 36), .faddr 3 (.t 1), (some (33, true)), none, [], none⟩,
  ⟨(some 37), .load none (.t 36), (some (33, true)), none, [], none⟩,
  ⟨(some 38), .bin .sub (.k (.int .i64 2048)) (.t 37), (some (33, true)), none, [], none⟩,
  ⟨(some 39), .bin .leq (.t 35) (.t 38), (some (33, true)), none, [], none⟩,
  ⟨(some 40), .pick (.t 33) (.t 39) (.k (.bool false)), none, none, [], none⟩,
  ⟨(some 2), .mv (.t 40), none, none, [], none⟩]
def ac_ref07_One_11 : AC := .reg l_ref07_One_11
def ac_ref07_One_12 : AC := .seq ac_ref07_One_11 .ret
def ac_ref07_One_13 : AC := .seq ac_ref07_One_10 ac_ref07_One_12
def ac_ref07_One_14 : AC := .seq ac_ref07_One_5 ac_ref07_One_13
def ac_ref07_One_15 : AC := .seq ac_ref07_One_0 ac_ref07_One_14
def ac_ref07_One : AC := ac_ref07_One_15
theorem comp_ref07_One : compF Try.prog [] (drawR Try.prog [] Try.f62.ntmps) [] 1 Try.f62 = some (ac_ref07_One, [.t 2]) := by kernel_rfl
def U_ref07_One := (And.intro (And.intro (And.intro (And.intro (And.intro @ac_ref07_One.eq_1 (@mR _ _ ac_ref07_One_0.eq_1)) (@mR _ _ ac_ref07_One_1.eq_1)) (And.intro (And.intro (@mR _ _ ac_ref07_One_2.eq_1) (@mU _ _ ac_ref07_One_3.eq_1)) (@mU _ _ ac_ref07_One_4.eq_1))) (And.intro (And.intro (And.intro (@mU _ _ ac_ref07_One_5.eq_1) (@mR _ _ ac_ref07_One_6.eq_1)) (@mR _ _ ac_ref07_One_7.eq_1)) (And.intro (And.intro (@mU _ _ ac_ref07_One_8.eq_1) (@mU _ _ ac_ref07_One_9.eq_1)) (@mU _ _ ac_ref07_One_10.eq_1)))) (And.intro (And.intro (And.intro (And.intro (@mR _ _ ac_ref07_One_11.eq_1) (@mU _ _ ac_ref07_One_12.eq_1)) (@mU _ _ ac_ref07_One_13.eq_1)) (And.intro (And.intro (@mU _ _ ac_ref07_One_14.eq_1) (@mU _ _ ac_ref07_One_15.eq_1)) @l_ref07_One_0.eq_1)) (And.intro (And.intro (And.intro @l_ref07_One_1.eq_1 @l_ref07_One_2.eq_1) @l_ref07_One_6.eq_1) (And.intro @l_ref07_One_7.eq_1 @l_ref07_One_11.eq_1))))

/- scoria/scoriaref07.together -/
def l_ref07_together_0 : List AOp := [⟨(some 2), .box (.t 0), none, none, [], none⟩,
  ⟨(some 3), .box (.t 1), none, none, [], none⟩,
  ⟨(some 4), .mv (.k (.bool false)), none, none, [], none⟩]
def ac_ref07_together_0 : AC := .reg l_ref07_together_0
def l_ref07_together_1 : List AOp := [⟨(some 5), .faddr 0 (.t 3), none, none, [], none⟩,
  ⟨(some 6), .load none (.t 5), none, none, [], none⟩,
  ⟨(some 7), .faddr 0 (.t 2), none, none, [], none⟩,
  ⟨(some 8), .load none (.t 7), none, none, [], none⟩,
  ⟨(some 9), .faddr 1 (.t 2), none, none, [], none⟩,
  ⟨(some 10), .load none (.t 9), none, none, [], none⟩,
  ⟨(some 11), .bin .add (.t 8) (.t 10), none, none, [], none⟩,
  ⟨(some 12), .bin .neq (.t 6) (.t 11), none, none, [], none⟩,
  ⟨(some 13), .mv (.t 12), none, none, [], none⟩,
  ⟨(some 14), .faddr 2 (.t 2), (some (13, false)), none, [], none⟩,
  ⟨(some 15), .load none (.t 14), (some (13, false)), none, [], none⟩,
  ⟨(some 16), .faddr 2 (.t 3), (some (13, false)), none, [], none⟩,
  ⟨(some 17), .load none (.t 16), (some (13, false)), none, [], none⟩,
  ⟨(some 18), .bin .neq (.t 15) (.t 17), (some (13, false)), none, [], none⟩,
  ⟨(some 19), .pick (.t 13) (.k (.bool true)) (.t 18), none, none, [], none⟩]
def ac_ref07_together_1 : AC := .reg l_ref07_together_1
def l_ref07_together_2 : List AOp := [⟨(some 4), .mv (.k (.bool false)), none, none, [], none⟩]
def ac_ref07_together_2 : AC := .reg l_ref07_together_2
def ac_ref07_together_3 : AC := .seq ac_ref07_together_2 .ret
def ac_ref07_together_4 : AC := .cond (.t 19) ac_ref07_together_3 .skip
def ac_ref07_together_5 : AC := .seq ac_ref07_together_1 ac_ref07_together_4
def l_ref07_together_6 : List AOp := [⟨(some 20), .faddr 2 (.t 2), none, none, [], none⟩,
  ⟨(some 21), .load none (.t 20), none, none, [], none⟩,
  ⟨(some 22), .bin .eql (.t 21) (.k (.int .i64 1)), none, none, [], none⟩,
  ⟨(some 23), .mv (.t 22), none, none, [], none⟩,
  ⟨(some 24), .faddr 3 (.t 3), (some (23, false)), none, [], none⟩,
  ⟨(some 25), .load none (.t 24), (some (23, false)), none, [], none⟩,
  ⟨(some 26), .faddr 3 (.t 2), (some (23, false)), none, [], none⟩,
  ⟨(some 27), .load none (.t 26), (some (23, false)), none, [], none⟩,
  ⟨(some 28), .faddr 1 (.t 2), (some (23, false)), none, [], none⟩,
  ⟨(some 29), .load none (.t 28), (some (23, false)), none, [], none⟩,
  ⟨(some 30), .bin .add (.t 27) (.t 29), (some (23, false)), none, [], none⟩,
  ⟨(some 31), .bin .eql (.t 25) (.t 30), (some (23, false)), none, [], none⟩,
  ⟨(some 32), .pick (.t 23) (.k (.bool true)) (.t 31), none, none, [], none⟩,
  ⟨(some 4), .mv (.t 32), none, none, [], none⟩]
def ac_ref07_together_6 : AC := .reg l_ref07_together_6
def ac_ref07_together_7 : AC := .seq ac_ref07_together_6 .ret
def ac_ref07_together_8 : AC := .seq ac_ref07_together_5 ac_ref07_together_7
def ac_ref07_together_9 : AC := .seq ac_ref07_together_0 ac_ref07_together_8
def ac_ref07_together : AC := ac_ref07_together_9
theorem comp_ref07_together : compF Try.prog [] (drawR Try.prog [] Try.f63.ntmps) [] 2 Try.f63 = some (ac_ref07_together, [.t 4]) := by kernel_rfl
def U_ref07_together := (And.intro (And.intro (And.intro (And.intro @ac_ref07_together.eq_1 (@mR _ _ ac_ref07_together_0.eq_1)) (And.intro (@mR _ _ ac_ref07_together_1.eq_1) (@mR _ _ ac_ref07_together_2.eq_1))) (And.intro (And.intro (@mU _ _ ac_ref07_together_3.eq_1) (@mU _ _ ac_ref07_together_4.eq_1)) (And.intro (@mU _ _ ac_ref07_together_5.eq_1) (@mR _ _ ac_ref07_together_6.eq_1)))) (And.intro (And.intro (And.intro (@mU _ _ ac_ref07_together_7.eq_1) (@mU _ _ ac_ref07_together_8.eq_1)) (And.intro (@mU _ _ ac_ref07_together_9.eq_1) @l_ref07_together_0.eq_1)) (And.intro (And.intro @l_ref07_together_1.eq_1 @l_ref07_together_2.eq_1) @l_ref07_together_6.eq_1)))

/- scoria/scoriaref01.field -/
def l_ref01_field_0 : List AOp := [⟨(some 4), .mv (.k (.str [])), none, none, [], none⟩,
  ⟨(some 5), .mv (.k (.bool false)), none, none, [], none⟩]
def ac_ref01_field_0 : AC := .reg l_ref01_field_0
def l_ref01_field_1 : List AOp := [⟨(some 6), .nilown 1, none, none, [], none⟩]
def ac_ref01_field_1 : AC := .reg l_ref01_field_1
def l_ref01_field_2 : List AOp := [⟨(some 7), .mv (.k (.int .i64 0)), none, none, [], none⟩]
def ac_ref01_field_2 : AC := .reg l_ref01_field_2
def l_ref01_field_3 : List AOp := [⟨(some 8), .mv (.t 7), none, none, [], none⟩,
  ⟨(some 9), .mv (.t 1), none, none, [], none⟩,
  ⟨(some 10), .bin .lss (.t 8) (.t 9), none, none, [], none⟩]
def ac_ref01_field_3 : AC := .reg l_ref01_field_3
def ac_ref01_field_4 : AC := .cond (.t 10) .skip (.exit 0)
def ac_ref01_field_5 : AC := .seq ac_ref01_field_3 ac_ref01_field_4
def l_ref01_field_6 : List AOp := [⟨(some 13), .mv (.t 6), none, none, [], none⟩,
  ⟨(some 14), .mv (.t 0), none, none, [], none⟩,
  ⟨(some 15), .bin .rem (.t 14) (.k (.int .u64 256)), none, none, [], none⟩,
  ⟨(some 16), .conv .u8 (.t 15), none, none, [], none⟩,
  ⟨(some 17), .blds false [(.int .u8 0)] 1 [(0, (.t 16))], none, none, [], none⟩,
  ⟨(some 18), .app 1 1 [(.int .u8 0)] (.t 13) (.t 17), none, none, [], none⟩,
  ⟨(some 6), .mv (.t 18), none, none, [], none⟩]
def ac_ref01_field_6 : AC := .reg l_ref01_field_6
def l_ref01_field_7 : List AOp := [⟨(some 19), .mv (.t 0), none, none, [], none⟩,
  ⟨(some 20), .bin .quo (.t 19) (.k (.int .u64 256)), none, none, [], none⟩,
  ⟨(some 0), .mv (.t 20), none, none, [], none⟩]
def ac_ref01_field_7 : AC := .reg l_ref01_field_7
def ac_ref01_field_8 : AC := .seq ac_ref01_field_6 ac_ref01_field_7
def ac_ref01_field_9 : AC := .block 1 ac_ref01_field_8
def l_ref01_field_10 : List AOp := [⟨(some 11), .mv (.t 7), none, none, [], none⟩,
  ⟨(some 12), .bin .add (.t 11) (.k (.int .i64 1)), none, none, [], none⟩,
  ⟨(some 7), .mv (.t 12), none, none, [], none⟩]
def ac_ref01_field_10 : AC := .reg l_ref01_field_10
def ac_ref01_field_11 : AC := .seq ac_ref01_field_9 ac_ref01_field_10
def ac_ref01_field_12 : AC := .seq ac_ref01_field_5 ac_ref01_field_11
def ac_ref01_field_13 : AC := .loop [0, 1, 6, 7] 1 ac_ref01_field_12
def ac_ref01_field_14 : AC := .block 0 ac_ref01_field_13
def ac_ref01_field_15 : AC := .seq ac_ref01_field_2 ac_ref01_field_14
def l_ref01_field_16 : List AOp := [⟨(some 21), .mv (.t 6), none, none, [], none⟩,
  ⟨(some 22), .b2s (.t 21), none, none, [], none⟩,
  ⟨(some 23), .mv (.t 0), none, none, [], none⟩,
  ⟨(some 24), .bin .eql (.t 23) (.k (.int .u64 0)), none, none, [], none⟩,
  ⟨(some 4), .mv (.t 22), none, none, [], none⟩,
  ⟨(some 5), .mv (.t 24), none, none, [], none⟩]
def ac_ref01_field_16 : AC := .reg l_ref01_field_16
def ac_ref01_field_17 : AC := .seq ac_ref01_field_16 .ret
def ac_ref01_field_18 : AC := .seq ac_ref01_field_15 ac_ref01_field_17
def ac_ref01_field_19 : AC := .seq ac_ref01_field_1 ac_ref01_field_18
def ac_ref01_field_20 : AC := .seq ac_ref01_field_0 ac_ref01_field_19
def ac_ref01_field : AC := ac_ref01_field_20
theorem comp_ref01_field : compF Try.prog [6] (drawR Try.prog [6] Try.f64.ntmps) [([0, 1, 6, 7], 1)] 2 Try.f64 = some (ac_ref01_field, [.t 4, .t 5]) := by kernel_rfl
def U_ref01_field := (And.intro (And.intro (And.intro (And.intro (And.intro @ac_ref01_field.eq_1 (@mR _ _ ac_ref01_field_0.eq_1)) (And.intro (@mR _ _ ac_ref01_field_1.eq_1) (@mR _ _ ac_ref01_field_2.eq_1))) (And.intro (And.intro (@mR _ _ ac_ref01_field_3.eq_1) (@mU _ _ ac_ref01_field_4.eq_1)) (And.intro (@mU _ _ ac_ref01_field_5.eq_1) (@mR _ _ ac_ref01_field_6.eq_1)))) (And.intro (And.intro (And.intro (@mR _ _ ac_ref01_field_7.eq_1) (@mU _ _ ac_ref01_field_8.eq_1)) (And.intro (@mU _ _ ac_ref01_field_9.eq_1) (@mR _ _ ac_ref01_field_10.eq_1))) (And.intro (And.intro (@mU _ _ ac_ref01_field_11.eq_1) (@mU _ _ ac_ref01_field_12.eq_1)) (@mU _ _ ac_ref01_field_13.eq_1)))) (And.intro (And.intro (And.intro (And.intro (@mU _ _ ac_ref01_field_14.eq_1) (@mU _ _ ac_ref01_field_15.eq_1)) (And.intro (@mR _ _ ac_ref01_field_16.eq_1) (@mU _ _ ac_ref01_field_17.eq_1))) (And.intro (And.intro (@mU _ _ ac_ref01_field_18.eq_1) (@mU _ _ ac_ref01_field_19.eq_1)) (And.intro (@mU _ _ ac_ref01_field_20.eq_1) @l_ref01_field_0.eq_1))) (And.intro (And.intro (And.intro @l_ref01_field_1.eq_1 @l_ref01_field_2.eq_1) (And.intro @l_ref01_field_3.eq_1 @l_ref01_field_6.eq_1)) (And.intro (And.intro @l_ref01_field_7.eq_1 @l_ref01_field_10.eq_1) @l_ref01_field_16.eq_1))))

/- scoria/field.Get -/
def l_field_Get_0 : List AOp := [⟨(some 6), .mv (.k (.int .u64 0)), none, none, [], none⟩,
  ⟨(some 7), .mv (.k (.int .i64 0)), none, none, [], none⟩]
def ac_field_Get_0 : AC := .reg l_field_Get_0
def l_field_Get_1 : List AOp := [⟨(some 11), .mv (.t 2), none, none, [], none⟩,
  ⟨(some 12), .call false 69 [(.t 11)], none, none, [], none⟩,
  ⟨(some 13), .un .not (.t 12), none, none, [], none⟩,
  ⟨(some 14), .mv (.t 13), none, none, [], none⟩,
  ⟨(some 15), .mv (.t 1), (some (14, false)), none, [], none⟩,
  ⟨(some 16), .bin .lss (.t 15) (.k (.int .i64 0)), (some (14, false)), none, [], none⟩,
  ⟨(some 17), .pick (.t 14) (.k (.bool true)) (.t 16), none, none, [], none⟩,
  ⟨(some 10), .mv (.t 17), none, none, [], none⟩]
def ac_field_Get_1 : AC := .reg l_field_Get_1
def l_field_Get_2 : List AOp := [⟨(some 6), .mv (.k (.int .u64 0)), none, none, [], none⟩,
  ⟨(some 7), .mv (.k (.int .i64 1)), none, none, [], none⟩]
def ac_field_Get_2 : AC := .reg l_field_Get_2
def ac_field_Get_3 : AC := .seq ac_field_Get_2 .ret
def l_field_Get_4 : List AOp := [⟨(some 19), .mv (.t 1), none, none, [], none⟩,
  ⟨(some 20), .mv (.t 0), none, none, [], none⟩,
  ⟨(some 21), .lens (.t 20), none, none, [], none⟩,
  ⟨(some 22), .bin .gtr (.t 19) (.t 21), none, none, [], none⟩,
  ⟨(some 23), .mv (.t 22), none, none, [], none⟩,
  ⟨(some 24), .mv (.t 0), (some (23, false)), none, [], none⟩,
  ⟨(some 25), .lens (.t 24), (some (23, false)), none, [], none⟩,
  ⟨(some 26), .mv (.t 1), (some (23, false)), none, [], none⟩,
  ⟨(some 27), .bin .sub (.t 25) (.t 26), (some (23, false)), none, [], none⟩,
  ⟨(some 28), .mv (.t 2), (some (23, false)), none, [], none⟩,
  ⟨(some 29), .bin .lss (.t 27) (.t 28), (some (23, false)), none, [], none⟩,
  ⟨(some 30), .pick (.t 23) (.k (.bool true)) (.t 29), none, none, [], none⟩,
  ⟨(some 18), .mv (.t 30), none, none, [], none⟩]
def ac_field_Get_4 : AC := .reg l_field_Get_4
def l_field_Get_5 : List AOp := [⟨(some 6), .mv (.k (.int .u64 0)), none, none, [], none⟩,
  ⟨(some 7), .mv (.k (.int .i64 5)), none, none, [], none⟩]
def ac_field_Get_5 : AC := .reg l_field_Get_5
def ac_field_Get_6 : AC := .seq ac_field_Get_5 .ret
def ac_field_Get_7 : AC := .cond (.t 18) ac_field_Get_6 .skip
def ac_field_Get_8 : AC := .seq ac_field_Get_4 ac_field_Get_7
def ac_field_Get_9 : AC := .cond (.t 10) ac_field_Get_3 ac_field_Get_8
def ac_field_Get_10 : AC := .seq ac_field_Get_1 ac_field_Get_9
def ac_field_Get_11 : AC := .block 0 ac_field_Get_10
def l_field_Get_12 : List AOp := [⟨(some 8), .mv (.k (.int .u64 0)), none, none, [], none⟩]
def ac_field_Get_12 : AC := .reg l_field_Get_12
def l_field_Get_13 : List AOp := [⟨(some 31), .mv (.t 2), none, none, [], none⟩,
  ⟨(some 32), .bin .sub (.t 31) (.k (.int .i64 1)), none, none, [], none⟩,
  ⟨(some 9), .mv (.t 32), none, none, [], none⟩]
def ac_field_Get_13 : AC := .reg l_field_Get_13
def l_field_Get_14 : List AOp := [⟨(some 33), .mv (.t 9), none, none, [], none⟩,
  ⟨(some 34), .bin .geq (.t 33) (.k (.int .i64 0)), none, none, [], none⟩]
def ac_field_Get_14 : AC := .reg l_field_Get_14
def ac_field_Get_15 : AC := .cond (.t 34) .skip (.exit 1)
def ac_field_Get_16 : AC := .seq ac_field_Get_14 ac_field_Get_15
def l_field_Get_17 : List AOp := [⟨(some 37), .mv (.t 8), none, none, [], none⟩,
  ⟨(some 38), .bin .shl (.t 37) (.k (.int .u64 8)), none, none, [], none⟩,
  ⟨(some 39), .mv (.t 0), none, none, [], none⟩,
  ⟨(some 40), .mv (.t 1), none, none, [], none⟩,
  ⟨(some 41), .mv (.t 9), none, none, [], none⟩,
  ⟨(some 42), .bin .add (.t 40) (.t 41), none, none, [], none⟩,
  ⟨(some 43), .idxs (.t 39) (.t 42), none, none, [], none⟩,
  ⟨(some 44), .conv .u64 (.t 43), none, none, [], none⟩,
  ⟨(some 45), .bin .or (.t 38) (.t 44), none, none, [], none⟩,
  ⟨(some 8), .mv (.t 45), none, none, [], none⟩]
def ac_field_Get_17 : AC := .reg l_field_Get_17
def ac_field_Get_18 : AC := .block 2 ac_field_Get_17
def l_field_Get_19 : List AOp := [⟨(some 35), .mv (.t 9), none, none, [], none⟩,
  ⟨(some 36), .bin .sub (.t 35) (.k (.int .i64 1)), none, none, [], none⟩,
  ⟨(some 9), .mv (.t 36), none, none, [], none⟩]
def ac_field_Get_19 : AC := .reg l_field_Get_19
def ac_field_Get_20 : AC := .seq ac_field_Get_18 ac_field_Get_19
def ac_field_Get_21 : AC := .seq ac_field_Get_16 ac_field_Get_20
def ac_field_Get_22 : AC := .loop [0, 1, 8, 9] 0 ac_field_Get_21
def ac_field_Get_23 : AC := .block 1 ac_field_Get_22
def ac_field_Get_24 : AC := .seq ac_field_Get_13 ac_field_Get_23
def l_field_Get_25 : List AOp := [⟨(some 46), .mv (.t 8), none, none, [], none⟩,
  ⟨(some 6), .mv (.t 46), none, none, [], none⟩,
  ⟨(some 7), .mv (.k (.int .i64 0)), none, none, [], none⟩]
def ac_field_Get_25 : AC := .reg l_field_Get_25
def ac_field_Get_26 : AC := .seq ac_field_Get_25 .ret
def ac_field_Get_27 : AC := .seq ac_field_Get_24 ac_field_Get_26
def ac_field_Get_28 : AC := .seq ac_field_Get_12 ac_field_Get_27
def ac_field_Get_29 : AC := .seq ac_field_Get_11 ac_field_Get_28
def ac_field_Get_30 : AC := .seq ac_field_Get_0 ac_field_Get_29
def ac_field_Get : AC := ac_field_Get_30
theorem comp_field_Get : compF Try.prog [] (drawR Try.prog [] Try.f65.ntmps) [([0, 1, 8, 9], 0)] 3 Try.f65 = some (ac_field_Get, [.t 6, .t 7]) := by kernel_rfl
def U_field_Get := (And.intro (And.intro (And.intro (And.intro (And.intro (And.intro @ac_field_Get.eq_1 (@mR _ _ ac_field_Get_0.eq_1)) (@mR _ _ ac_field_Get_1.eq_1)) (And.intro (And.intro (@mR _ _ ac_field_Get_2.eq_1) (@mU _ _ ac_field_Get_3.eq_1)) (@mR _ _ ac_field_Get_4.eq_1))) (And.intro (And.intro (And.intro (@mR _ _ ac_field_Get_5.eq_1) (@mU _ _ ac_field_Get_6.eq_1)) (@mU _ _ ac_field_Get_7.eq_1)) (And.intro (@mU _ _ ac_field_Get_8.eq_1) (@mU _ _ ac_field_Get_9.eq_1)))) (And.intro (And.intro (And.intro (And.intro (@mU _ _ ac_field_Get_10.eq_1) (@mU _ _ ac_field_Get_11.eq_1)) (@mR _ _ ac_field_Get_12.eq_1)) (And.intro (And.intro (@mR _ _ ac_field_Get_13.eq_1) (@mR _ _ ac_field_Get_14.eq_1)) (@mU _ _ ac_field_Get_15.eq_1))) (And.intro (And.intro (And.intro (@mU _ _ ac_field_Get_16.eq_1) (@mR _ _ ac_field_Get_17.eq_1)) (@mU _ _ ac_field_Get_18.eq_1)) (And.intro (@mR _ _ ac_field_Get_19.eq_1) (@mU _ _ ac_field_Get_20.eq_1))))) (And.intro (And.intro (And.intro (And.intro (And.intro (@mU _ _ ac_field_Get_21.eq_1) (@mU _ _ ac_field_Get_22.eq_1)) (@mU _ _ ac_field_Get_23.eq_1)) (And.intro (And.intro (@mU _ _ ac_field_Get_24.eq_1) (@mR _ _ ac_field_Get_25.eq_1)) (@mU _ _ ac_field_Get_26.eq_1))) (And.intro (And.intro (And.intro (@mU _ _ ac_field_Get_27.eq_1) (@mU _ _ ac_field_Get_28.eq_1)) (@mU _ _ ac_field_Get_29.eq_1)) (And.intro (@mU _ _ ac_field_Get_30.eq_1) @l_field_Get_0.eq_1))) (And.intro (And.intro (And.intro (And.intro @l_field_Get_1.eq_1 @l_field_Get_2.eq_1) @l_field_Get_4.eq_1) (And.intro @l_field_Get_5.eq_1 @l_field_Get_12.eq_1)) (And.intro (And.intro (And.intro @l_field_Get_13.eq_1 @l_field_Get_14.eq_1) @l_field_Get_17.eq_1) (And.intro @l_field_Get_19.eq_1 @l_field_Get_25.eq_1)))))

/- slices.IndexFunc[[]scoria/api.Kid,scoria/api.Kid] -/
def l_slices_IndexFunc_api_Kid_0 : List AOp := [⟨(some 4), .mv (.k (.int .i64 0)), none, none, [], none⟩]
def ac_slices_IndexFunc_api_Kid_0 : AC := .reg l_slices_IndexFunc_api_Kid_0
def l_slices_IndexFunc_api_Kid_1 : List AOp := [⟨(some 6), .mv (.t 0), none, none, [], none⟩,
  ⟨(some 7), .len (.t 6), none, none, [], none⟩,
  ⟨(some 8), .mv (.k (.int .i64 0)), none, none, [], none⟩]
def ac_slices_IndexFunc_api_Kid_1 : AC := .reg l_slices_IndexFunc_api_Kid_1
def l_slices_IndexFunc_api_Kid_2 : List AOp := [⟨(some 9), .bin .lss (.t 8) (.t 7), none, none, [], none⟩]
def ac_slices_IndexFunc_api_Kid_2 : AC := .reg l_slices_IndexFunc_api_Kid_2
def ac_slices_IndexFunc_api_Kid_3 : AC := .cond (.t 9) .skip (.exit 0)
def l_slices_IndexFunc_api_Kid_4 : List AOp := [⟨(some 10), .mv (.t 8), none, none, [], none⟩,
  ⟨(some 5), .mv (.t 10), none, none, [], none⟩]
def ac_slices_IndexFunc_api_Kid_4 : AC := .reg l_slices_IndexFunc_api_Kid_4
def l_slices_IndexFunc_api_Kid_5 : List AOp := [⟨(some 11), .mv (.t 1), none, none, [], none⟩,
  ⟨(some 12), .mv (.t 0), none, none, [], none⟩,
  ⟨(some 13), .mv (.t 5), none, none, [], none⟩,
  ⟨(some 14), .isl 2 (.t 12) (.t 13), none, none, [], none⟩,
  ⟨(some 15), .load (some 2) (.t 14), none, none, [], none⟩,
  ⟨(some 16), .callv (.t 11) [(.t 15)], none, none, [], none⟩]
def ac_slices_IndexFunc_api_Kid_5 : AC := .reg l_slices_IndexFunc_api_Kid_5
def l_slices_IndexFunc_api_Kid_6 : List AOp := [⟨(some 17), .mv (.t 5), none, none, [], none⟩,
  ⟨(some 4), .mv (.t 17), none, none, [], none⟩]
def ac_slices_IndexFunc_api_Kid_6 : AC := .reg l_slices_IndexFunc_api_Kid_6
def ac_slices_IndexFunc_api_Kid_7 : AC := .seq ac_slices_IndexFunc_api_Kid_6 .ret
def ac_slices_IndexFunc_api_Kid_8 : AC := .cond (.t 16) ac_slices_IndexFunc_api_Kid_7 .skip
def ac_slices_IndexFunc_api_Kid_9 : AC := .seq ac_slices_IndexFunc_api_Kid_5 ac_slices_IndexFunc_api_Kid_8
def ac_slices_IndexFunc_api_Kid_10 : AC := .seq ac_slices_IndexFunc_api_Kid_4 ac_slices_IndexFunc_api_Kid_9
def ac_slices_IndexFunc_api_Kid_11 : AC := .block 1 ac_slices_IndexFunc_api_Kid_10
def l_slices_IndexFunc_api_Kid_12 : List AOp := [⟨(some 18), .bin .add (.t 8) (.k (.int .i64 1)), none, none, [], none⟩,
  ⟨(some 8), .mv (.t 18), none, none, [], none⟩]
def ac_slices_IndexFunc_api_Kid_12 : AC := .reg l_slices_IndexFunc_api_Kid_12
def ac_slices_IndexFunc_api_Kid_13 : AC := .seq ac_slices_IndexFunc_api_Kid_11 ac_slices_IndexFunc_api_Kid_12
def ac_slices_IndexFunc_api_Kid_14 : AC := .seq ac_slices_IndexFunc_api_Kid_3 ac_slices_IndexFunc_api_Kid_13
def ac_slices_IndexFunc_api_Kid_15 : AC := .seq ac_slices_IndexFunc_api_Kid_2 ac_slices_IndexFunc_api_Kid_14
def ac_slices_IndexFunc_api_Kid_16 : AC := .loop [0, 1, 7, 8] 0 ac_slices_IndexFunc_api_Kid_15
def ac_slices_IndexFunc_api_Kid_17 : AC := .block 0 ac_slices_IndexFunc_api_Kid_16
def ac_slices_IndexFunc_api_Kid_18 : AC := .seq ac_slices_IndexFunc_api_Kid_1 ac_slices_IndexFunc_api_Kid_17
def l_slices_IndexFunc_api_Kid_19 : List AOp := [⟨(some 4), .mv (.k (.int .i64 (-1))), none, none, [], none⟩]
def ac_slices_IndexFunc_api_Kid_19 : AC := .reg l_slices_IndexFunc_api_Kid_19
def ac_slices_IndexFunc_api_Kid_20 : AC := .seq ac_slices_IndexFunc_api_Kid_19 .ret
def ac_slices_IndexFunc_api_Kid_21 : AC := .seq ac_slices_IndexFunc_api_Kid_18 ac_slices_IndexFunc_api_Kid_20
def ac_slices_IndexFunc_api_Kid_22 : AC := .seq ac_slices_IndexFunc_api_Kid_0 ac_slices_IndexFunc_api_Kid_21
def ac_slices_IndexFunc_api_Kid : AC := ac_slices_IndexFunc_api_Kid_22
theorem comp_slices_IndexFunc_api_Kid : compF Try.prog [] (drawR Try.prog [] Try.f66.ntmps) [([0, 1, 7, 8], 0)] 2 Try.f66 = some (ac_slices_IndexFunc_api_Kid, [.t 4]) := by kernel_rfl
def U_slices_IndexFunc_api_Kid := (And.intro (And.intro (And.intro (And.intro (And.intro @ac_slices_IndexFunc_api_Kid.eq_1 (@mR _ _ ac_slices_IndexFunc_api_Kid_0.eq_1)) (And.intro (@mR _ _ ac_slices_IndexFunc_api_Kid_1.eq_1) (@mR _ _ ac_slices_IndexFunc_api_Kid_2.eq_1))) (And.intro (And.intro (@mU _ _ ac_slices_IndexFunc_api_Kid_3.eq_1) (@mR _ _ ac_slices_IndexFunc_api_Kid_4.eq_1)) (And.intro (@mR _ _ ac_slices_IndexFunc_api_Kid_5.eq_1) (@mR _ _ ac_slices_IndexFunc_api_Kid_6.eq_1)))) (And.intro (And.intro (And.intro (@mU _ _ ac_slices_IndexFunc_api_Kid_7.eq_1) (@mU _ _ ac_slices_IndexFunc_api_Kid_8.eq_1)) (And.intro (@mU _ _ ac_slices_IndexFunc_api_Kid_9.eq_1) (@mU _ _ ac_slices_IndexFunc_api_Kid_10.eq_1))) (And.intro (And.intro (@mU _ _ ac_slices_IndexFunc_api_Kid_11.eq_1) (@mR _ _ ac_slices_IndexFunc_api_Kid_12.eq_1)) (And.intro (@mU _ _ ac_slices_IndexFunc_api_Kid_13.eq_1) (@mU _ _ ac_slices_IndexFunc_api_Kid_14.eq_1))))) (And.intro (And.intro (And.intro (And.intro (@mU _ _ ac_slices_IndexFunc_api_Kid_15.eq_1) (@mU _ _ ac_slices_IndexFunc_api_Kid_16.eq_1)) (And.intro (@mU _ _ ac_slices_IndexFunc_api_Kid_17.eq_1) (@mU _ _ ac_slices_IndexFunc_api_Kid_18.eq_1))) (And.intro (And.intro (@mR _ _ ac_slices_IndexFunc_api_Kid_19.eq_1) (@mU _ _ ac_slices_IndexFunc_api_Kid_20.eq_1)) (And.intro (@mU _ _ ac_slices_IndexFunc_api_Kid_21.eq_1) (@mU _ _ ac_slices_IndexFunc_api_Kid_22.eq_1)))) (And.intro (And.intro (And.intro @l_slices_IndexFunc_api_Kid_0.eq_1 @l_slices_IndexFunc_api_Kid_1.eq_1) (And.intro @l_slices_IndexFunc_api_Kid_2.eq_1 @l_slices_IndexFunc_api_Kid_4.eq_1)) (And.intro (And.intro @l_slices_IndexFunc_api_Kid_5.eq_1 @l_slices_IndexFunc_api_Kid_6.eq_1) (And.intro @l_slices_IndexFunc_api_Kid_12.eq_1 @l_slices_IndexFunc_api_Kid_19.eq_1)))))

/- scoria/ext.span -/
def l_ext_span_0 : List AOp := [⟨(some 4), .mv (.k (.bool false)), none, none, [], none⟩]
def ac_ext_span_0 : AC := .reg l_ext_span_0
def l_ext_span_1 : List AOp := [⟨(some 5), .mv (.t 0), none, none, [], none⟩,
  ⟨(some 6), .bin .geq (.t 5) (.k (.int .i64 0)), none, none, [], none⟩,
  ⟨(some 7), .mv (.t 6), none, none, [], none⟩,
  ⟨(some 8), .mv (.t 1), (some (7, true)), none, [], none⟩,
  ⟨(some 9), .bin .geq (.t 8) (.k (.int .i64 0)), (some (7, true)), none, [], none⟩,
  ⟨(some 10), .pick (.t 7) (.t 9) (.k (.bool false)), none, none, [], none⟩,
  ⟨(some 11), .mv (.t 10), none, none, [], none⟩,
  ⟨(some 12), .mv (.t 0), (some (11, true)), none, [], none⟩,
  ⟨(some 13), .bin .leq (.t 12) (.k (.int .i64 16777216)), (some (11, true)), none, [], none⟩,
  ⟨(some 14), .pick (.t 11) (.t 13) (.k (.bool false)), none, none, [], none⟩,
  ⟨(some 15), .mv (.t 14), none, none, [], none⟩,
  ⟨(some 16), .mv (.t 1), (some (15, true)), none, [], none⟩,
  ⟨(some 17), .mv (.t 0), (some (15, true)), none, [], none⟩,
  ⟨(some 18), .bin .sub (.k (.int .i64 16777216)) (.t 17), (some (15, true)), none, [], none⟩,
  ⟨(some 19), .bin .leq (.t 16) (.t 18), (some (15, true)), none, [], none⟩,
  ⟨(some 20), .pick (.t 15) (.t 19) (.k (.bool false)), none, none, [], none⟩,
  ⟨(some 4), .mv (.t 20), none, none, [], none⟩]
def ac_ext_span_1 : AC := .reg l_ext_span_1
def ac_ext_span_2 : AC := .seq ac_ext_span_1 .ret
def ac_ext_span_3 : AC := .seq ac_ext_span_0 ac_ext_span_2
def ac_ext_span : AC := ac_ext_span_3
theorem comp_ext_span : compF Try.prog [] (drawR Try.prog [] Try.f67.ntmps) [] 2 Try.f67 = some (ac_ext_span, [.t 4]) := by kernel_rfl
def U_ext_span := (And.intro (And.intro (And.intro @ac_ext_span.eq_1 (@mR _ _ ac_ext_span_0.eq_1)) (And.intro (@mR _ _ ac_ext_span_1.eq_1) (@mU _ _ ac_ext_span_2.eq_1))) (And.intro (And.intro (@mU _ _ ac_ext_span_3.eq_1) @l_ext_span_0.eq_1) @l_ext_span_1.eq_1))

/- slices.IndexFunc[[]int,int] -/
def l_slices_IndexFunc_int_0 : List AOp := [⟨(some 4), .mv (.k (.int .i64 0)), none, none, [], none⟩]
def ac_slices_IndexFunc_int_0 : AC := .reg l_slices_IndexFunc_int_0
def l_slices_IndexFunc_int_1 : List AOp := [⟨(some 6), .mv (.t 0), none, none, [], none⟩,
  ⟨(some 7), .len (.t 6), none, none, [], none⟩,
  ⟨(some 8), .mv (.k (.int .i64 0)), none, none, [], none⟩]
def ac_slices_IndexFunc_int_1 : AC := .reg l_slices_IndexFunc_int_1
def l_slices_IndexFunc_int_2 : List AOp := [⟨(some 9), .bin .lss (.t 8) (.t 7), none, none, [], none⟩]
def ac_slices_IndexFunc_int_2 : AC := .reg l_slices_IndexFunc_int_2
def ac_slices_IndexFunc_int_3 : AC := .cond (.t 9) .skip (.exit 0)
def l_slices_IndexFunc_int_4 : List AOp := [⟨(some 10), .mv (.t 8), none, none, [], none⟩,
  ⟨(some 5), .mv (.t 10), none, none, [], none⟩]
def ac_slices_IndexFunc_int_4 : AC := .reg l_slices_IndexFunc_int_4
def l_slices_IndexFunc_int_5 : List AOp := [⟨(some 11), .mv (.t 1), none, none, [], none⟩,
  ⟨(some 12), .mv (.t 0), none, none, [], none⟩,
  ⟨(some 13), .mv (.t 5), none, none, [], none⟩,
  ⟨(some 14), .isl 1 (.t 12) (.t 13), none, none, [], none⟩,
  ⟨(some 15), .load none (.t 14), none, none, [], none⟩,
  ⟨(some 16), .callv (.t 11) [(.t 15)], none, none, [], none⟩]
def ac_slices_IndexFunc_int_5 : AC := .reg l_slices_IndexFunc_int_5
def l_slices_IndexFunc_int_6 : List AOp := [⟨(some 17), .mv (.t 5), none, none, [], none⟩,
  ⟨(some 4), .mv (.t 17), none, none, [], none⟩]
def ac_slices_IndexFunc_int_6 : AC := .reg l_slices_IndexFunc_int_6
def ac_slices_IndexFunc_int_7 : AC := .seq ac_slices_IndexFunc_int_6 .ret
def ac_slices_IndexFunc_int_8 : AC := .cond (.t 16) ac_slices_IndexFunc_int_7 .skip
def ac_slices_IndexFunc_int_9 : AC := .seq ac_slices_IndexFunc_int_5 ac_slices_IndexFunc_int_8
def ac_slices_IndexFunc_int_10 : AC := .seq ac_slices_IndexFunc_int_4 ac_slices_IndexFunc_int_9
def ac_slices_IndexFunc_int_11 : AC := .block 1 ac_slices_IndexFunc_int_10
def l_slices_IndexFunc_int_12 : List AOp := [⟨(some 18), .bin .add (.t 8) (.k (.int .i64 1)), none, none, [], none⟩,
  ⟨(some 8), .mv (.t 18), none, none, [], none⟩]
def ac_slices_IndexFunc_int_12 : AC := .reg l_slices_IndexFunc_int_12
def ac_slices_IndexFunc_int_13 : AC := .seq ac_slices_IndexFunc_int_11 ac_slices_IndexFunc_int_12
def ac_slices_IndexFunc_int_14 : AC := .seq ac_slices_IndexFunc_int_3 ac_slices_IndexFunc_int_13
def ac_slices_IndexFunc_int_15 : AC := .seq ac_slices_IndexFunc_int_2 ac_slices_IndexFunc_int_14
def ac_slices_IndexFunc_int_16 : AC := .loop [0, 1, 7, 8] 0 ac_slices_IndexFunc_int_15
def ac_slices_IndexFunc_int_17 : AC := .block 0 ac_slices_IndexFunc_int_16
def ac_slices_IndexFunc_int_18 : AC := .seq ac_slices_IndexFunc_int_1 ac_slices_IndexFunc_int_17
def l_slices_IndexFunc_int_19 : List AOp := [⟨(some 4), .mv (.k (.int .i64 (-1))), none, none, [], none⟩]
def ac_slices_IndexFunc_int_19 : AC := .reg l_slices_IndexFunc_int_19
def ac_slices_IndexFunc_int_20 : AC := .seq ac_slices_IndexFunc_int_19 .ret
def ac_slices_IndexFunc_int_21 : AC := .seq ac_slices_IndexFunc_int_18 ac_slices_IndexFunc_int_20
def ac_slices_IndexFunc_int_22 : AC := .seq ac_slices_IndexFunc_int_0 ac_slices_IndexFunc_int_21
def ac_slices_IndexFunc_int : AC := ac_slices_IndexFunc_int_22
theorem comp_slices_IndexFunc_int : compF Try.prog [] (drawR Try.prog [] Try.f68.ntmps) [([0, 1, 7, 8], 0)] 2 Try.f68 = some (ac_slices_IndexFunc_int, [.t 4]) := by kernel_rfl
def U_slices_IndexFunc_int := (And.intro (And.intro (And.intro (And.intro (And.intro @ac_slices_IndexFunc_int.eq_1 (@mR _ _ ac_slices_IndexFunc_int_0.eq_1)) (And.intro (@mR _ _ ac_slices_IndexFunc_int_1.eq_1) (@mR _ _ ac_slices_IndexFunc_int_2.eq_1))) (And.intro (And.intro (@mU _ _ ac_slices_IndexFunc_int_3.eq_1) (@mR _ _ ac_slices_IndexFunc_int_4.eq_1)) (And.intro (@mR _ _ ac_slices_IndexFunc_int_5.eq_1) (@mR _ _ ac_slices_IndexFunc_int_6.eq_1)))) (And.intro (And.intro (And.intro (@mU _ _ ac_slices_IndexFunc_int_7.eq_1) (@mU _ _ ac_slices_IndexFunc_int_8.eq_1)) (And.intro (@mU _ _ ac_slices_IndexFunc_int_9.eq_1) (@mU _ _ ac_slices_IndexFunc_int_10.eq_1))) (And.intro (And.intro (@mU _ _ ac_slices_IndexFunc_int_11.eq_1) (@mR _ _ ac_slices_IndexFunc_int_12.eq_1)) (And.intro (@mU _ _ ac_slices_IndexFunc_int_13.eq_1) (@mU _ _ ac_slices_IndexFunc_int_14.eq_1))))) (And.intro (And.intro (And.intro (And.intro (@mU _ _ ac_slices_IndexFunc_int_15.eq_1) (@mU _ _ ac_slices_IndexFunc_int_16.eq_1)) (And.intro (@mU _ _ ac_slices_IndexFunc_int_17.eq_1) (@mU _ _ ac_slices_IndexFunc_int_18.eq_1))) (And.intro (And.intro (@mR _ _ ac_slices_IndexFunc_int_19.eq_1) (@mU _ _ ac_slices_IndexFunc_int_20.eq_1)) (And.intro (@mU _ _ ac_slices_IndexFunc_int_21.eq_1) (@mU _ _ ac_slices_IndexFunc_int_22.eq_1)))) (And.intro (And.intro (And.intro @l_slices_IndexFunc_int_0.eq_1 @l_slices_IndexFunc_int_1.eq_1) (And.intro @l_slices_IndexFunc_int_2.eq_1 @l_slices_IndexFunc_int_4.eq_1)) (And.intro (And.intro @l_slices_IndexFunc_int_5.eq_1 @l_slices_IndexFunc_int_6.eq_1) (And.intro @l_slices_IndexFunc_int_12.eq_1 @l_slices_IndexFunc_int_19.eq_1)))))

/- scoria/field.width -/
def l_field_width_0 : List AOp := [⟨(some 2), .mv (.k (.bool false)), none, none, [], none⟩]
def ac_field_width_0 : AC := .reg l_field_width_0
def l_field_width_1 : List AOp := [⟨(some 3), .mv (.t 0), none, none, [], none⟩,
  ⟨(some 4), .bin .geq (.t 3) (.k (.int .i64 1)), none, none, [], none⟩,
  ⟨(some 5), .mv (.t 4), none, none, [], none⟩,
  ⟨(some 6), .mv (.t 0), (some (5, true)), none, [], none⟩,
  ⟨(some 7), .bin .leq (.t 6) (.k (.int .i64 8)), (some (5, true)), none, [], none⟩,
  ⟨(some 8), .pick (.t 5) (.t 7) (.k (.bool false)), none, none, [], none⟩,
  ⟨(some 2), .mv (.t 8), none, none, [], none⟩]
def ac_field_width_1 : AC := .reg l_field_width_1
def ac_field_width_2 : AC := .seq ac_field_width_1 .ret
def ac_field_width_3 : AC := .seq ac_field_width_0 ac_field_width_2
def ac_field_width : AC := ac_field_width_3
theorem comp_field_width : compF Try.prog [] (drawR Try.prog [] Try.f69.ntmps) [] 1 Try.f69 = some (ac_field_width, [.t 2]) := by kernel_rfl
def U_field_width := (And.intro (And.intro (And.intro @ac_field_width.eq_1 (@mR _ _ ac_field_width_0.eq_1)) (And.intro (@mR _ _ ac_field_width_1.eq_1) (@mU _ _ ac_field_width_2.eq_1))) (And.intro (And.intro (@mU _ _ ac_field_width_3.eq_1) @l_field_width_0.eq_1) @l_field_width_1.eq_1))

/- scoria/scoriaref07.Range -/
def l_ref07_Range_0 : List AOp := [⟨(some 4), .mv (.k (.bool false)), none, none, [], none⟩]
def ac_ref07_Range_0 : AC := .reg l_ref07_Range_0
def l_ref07_Range_1 : List AOp := [⟨(some 5), .mv (.t 0), none, none, [], none⟩,
  ⟨(some 6), .bin .geq (.t 5) (.k (.int .i64 0)), none, none, [], none⟩,
  ⟨(some 7), .mv (.t 6), none, none, [], none⟩,
  ⟨(some 8), .mv (.t 0), (some (7, true)), none, [], none⟩,
  ⟨(some 9), .bin .leq (.t 8) (.k (.int .i64 16777216)), (some (7, true)), none, [], none⟩,
  ⟨(some 10), .pick (.t 7) (.t 9) (.k (.bool false)), none, none, [], none⟩,
  ⟨(some 11), .mv (.t 10), none, none, [], none⟩,
  ⟨(some 12), .mv (.t 1), (some (11, true)), none, [], none⟩,
  ⟨(some 13), .bin .geq (.t 12) (.k (.int .i64 0)), (some (11, true)), none, [], none⟩,
  ⟨(some 14), .pick (.t 11) (.t 13) (.k (.bool false)), none, none, [], none⟩,
  ⟨(some 15), .mv (.t 14), none, none, [], none⟩,
  ⟨(some 16), .mv (.t 1), (some (15, true)), none, [], none⟩,
  ⟨(some 17), .mv (.t 0), (some (15, true)), none, [], none⟩,
  ⟨(some 18), .bin .sub (.k (.int .i64 16777216)) (.t 17), (some (15, true)), none, [], none⟩,
  ⟨(some 19), .bin .leq (.t 16) (.t 18), (some (15, true)), none, [], none⟩,
  ⟨(some 20), .pick (.t 15) (.t 19) (.k (.bool false)), none, none, [], none⟩,
  ⟨(some 4), .mv (.t 20), none, none, [], none⟩]
def ac_ref07_Range_1 : AC := .reg l_ref07_Range_1
def ac_ref07_Range_2 : AC := .seq ac_ref07_Range_1 .ret
def ac_ref07_Range_3 : AC := .seq ac_ref07_Range_0 ac_ref07_Range_2
def ac_ref07_Range : AC := ac_ref07_Range_3
theorem comp_ref07_Range : compF Try.prog [] (drawR Try.prog [] Try.f71.ntmps) [] 2 Try.f71 = some (ac_ref07_Range, [.t 4]) := by kernel_rfl
def U_ref07_Range := (And.intro (And.intro (And.intro @ac_ref07_Range.eq_1 (@mR _ _ ac_ref07_Range_0.eq_1)) (And.intro (@mR _ _ ac_ref07_Range_1.eq_1) (@mU _ _ ac_ref07_Range_2.eq_1))) (And.intro (And.intro (@mU _ _ ac_ref07_Range_3.eq_1) @l_ref07_Range_0.eq_1) @l_ref07_Range_1.eq_1))

end Go.Proofs.Ytlkpceacmfndlaa.Aw
