/-
  The functions of the seat, translated to abstract code. Written by a program (wip/Gen2.lean).
-/
import Derived.Test.YtdgpiobmncohjaaGreatKda
import Derived.Test.YtdgpiobmncohjaaGreatProg
set_option maxRecDepth 100000
set_option linter.all false
namespace Go.Proofs.YtdgpiobmncohjaaGreat.Aw
open Go.RowKit
/- scoria/tree.New -/
def b0l0 : List AOp := [oD 0 (.mv (.k .nilp))]
def b0_0 : AC := .reg b0l0
def b0l1 : List AOp := [oD 1 (.build [.nili] []),
oD 2 (.box (.t 1)),
oD 0 (.mv (.t 2))]
def b0_1 : AC := .reg b0l1
def b0_2 : AC := .seq b0_1 .ret
def b0_3 : AC := .seq b0_0 b0_2
def ac_tree_New : AC := b0_3
theorem cm65 : compF Tryz.prog [] (drawR Tryz.prog [] Tryz.f5.ntmps) [] 0 Tryz.f5 = some (ac_tree_New, [.t 0]) := by kernel_rfl
def U65 := J oA (J (J (J @ac_tree_New.eq_1 (@mR _ _ b0_0.eq_1)) (J (@mR _ _ b0_1.eq_1) (@mU _ _ b0_2.eq_1))) (J (J (@mU _ _ b0_3.eq_1) @b0l0.eq_1) @b0l1.eq_1))

/- (*scoria/tree.Tree).Cut -/
def b1l0 : List AOp := [oD 6 (.mv (.k (.int .i64 0)))]
def b1_0 : AC := .reg b1l0
def b1l1 : List AOp := [oD 12 (.mv (.t 0)),
oD 13 (.isn .p false (.t 12))]
def b1_1 : AC := .reg b1l1
def b1l2 : List AOp := [oD 6 (.mv (.k (.int .i64 1)))]
def b1_2 : AC := .reg b1l2
def b1_3 : AC := .seq b1_2 .ret
def b1_4 : AC := .cond (.t 13) b1_3 .skip
def b1_5 : AC := .seq b1_1 b1_4
def b1l6 : List AOp := [oD 15 (.mv (.t 1)),
oD 16 (.mv (.t 2)),
oD 17 (.icall 12 [(.k (.slc [])), (.t 15), (.t 16)]),
oD 14 (.mv (.t 17)),
oD 18 (.ext 0 (.t 14)),
oD 19 (.ext 1 (.t 14)),
oD 7 (.mv (.t 18)),
oD 8 (.mv (.t 19))]
def b1_6 : AC := .reg b1l6
def b1l7 : List AOp := [oD 20 (.mv (.t 8)),
oD 21 (.bin .neq (.t 20) (.k (.int .i64 0)))]
def b1_7 : AC := .reg b1l7
def b1l8 : List AOp := [oD 22 (.mv (.t 8)),
oD 6 (.mv (.t 22))]
def b1_8 : AC := .reg b1l8
def b1_9 : AC := .seq b1_8 .ret
def b1_10 : AC := .cond (.t 21) b1_9 .skip
def b1_11 : AC := .seq b1_7 b1_10
def b1_12 : AC := .seq b1_6 b1_11
def b1l13 : List AOp := [oD 23 (.mv (.t 0)),
oD 24 (.mv (.t 1)),
oD 25 (.mv (.t 1)),
oD 26 (.mv (.t 2)),
oD 27 (.bin .add (.t 25) (.t 26)),
oD 28 (.icall 24 [(.t 23), (.t 24), (.t 27)]),
oD 9 (.mv (.t 28))]
def b1_13 : AC := .reg b1l13
def b1l14 : List AOp := [oD 30 (.mv (.t 9)),
oD 31 (.mv (.t 1)),
oD 32 (.mv (.t 2)),
oD 33 (.icall 12 [(.t 30), (.t 31), (.t 32)]),
oD 29 (.mv (.t 33)),
oD 34 (.ext 0 (.t 29)),
oD 35 (.ext 1 (.t 29)),
oD 10 (.mv (.t 34)),
oD 11 (.mv (.t 35))]
def b1_14 : AC := .reg b1l14
def b1l15 : List AOp := [oD 36 (.mv (.t 11)),
oD 37 (.bin .neq (.t 36) (.k (.int .i64 0)))]
def b1_15 : AC := .reg b1l15
def b1l16 : List AOp := [oD 38 (.mv (.t 11)),
oD 6 (.mv (.t 38))]
def b1_16 : AC := .reg b1l16
def b1_17 : AC := .seq b1_16 .ret
def b1_18 : AC := .cond (.t 37) b1_17 .skip
def b1_19 : AC := .seq b1_15 b1_18
def b1l20 : List AOp := [oD 39 (.mv (.t 0)),
oD 40 (.mv (.t 9)),
oD 41 (.mv (.t 10)),
oD 42 (.icall 25 [(.t 39), (.t 40), (.t 41)])]
def b1_20 : AC := .reg b1l20
def b1l21 : List AOp := [oD 6 (.mv (.k (.int .i64 0)))]
def b1_21 : AC := .reg b1l21
def b1_22 : AC := .seq b1_21 .ret
def b1_23 : AC := .seq b1_20 b1_22
def b1_24 : AC := .seq b1_19 b1_23
def b1_25 : AC := .seq b1_14 b1_24
def b1_26 : AC := .seq b1_13 b1_25
def b1_27 : AC := .seq b1_12 b1_26
def b1_28 : AC := .seq b1_5 b1_27
def b1_29 : AC := .seq b1_0 b1_28
def ac_tree_Tree_Cut : AC := b1_29
theorem cm69 : compF Tryz.prog [1000012, 1000024, 1000025] (drawR Tryz.prog [1000012, 1000024, 1000025] Tryz.f7.ntmps) [] 3 Tryz.f7 = some (ac_tree_Tree_Cut, [.t 6]) := by kernel_rfl
def U69 := J oA (J (J (J (J (J (J @ac_tree_Tree_Cut.eq_1 (@mR _ _ b1_0.eq_1)) (@mR _ _ b1_1.eq_1)) (J (J (@mR _ _ b1_2.eq_1) (@mU _ _ b1_3.eq_1)) (@mU _ _ b1_4.eq_1))) (J (J (J (@mU _ _ b1_5.eq_1) (@mR _ _ b1_6.eq_1)) (@mR _ _ b1_7.eq_1)) (J (@mR _ _ b1_8.eq_1) (@mU _ _ b1_9.eq_1)))) (J (J (J (J (@mU _ _ b1_10.eq_1) (@mU _ _ b1_11.eq_1)) (@mU _ _ b1_12.eq_1)) (J (J (@mR _ _ b1_13.eq_1) (@mR _ _ b1_14.eq_1)) (@mR _ _ b1_15.eq_1))) (J (J (J (@mR _ _ b1_16.eq_1) (@mU _ _ b1_17.eq_1)) (@mU _ _ b1_18.eq_1)) (J (@mU _ _ b1_19.eq_1) (@mR _ _ b1_20.eq_1))))) (J (J (J (J (J (@mR _ _ b1_21.eq_1) (@mU _ _ b1_22.eq_1)) (@mU _ _ b1_23.eq_1)) (J (J (@mU _ _ b1_24.eq_1) (@mU _ _ b1_25.eq_1)) (@mU _ _ b1_26.eq_1))) (J (J (J (@mU _ _ b1_27.eq_1) (@mU _ _ b1_28.eq_1)) (@mU _ _ b1_29.eq_1)) (J @b1l0.eq_1 @b1l1.eq_1))) (J (J (J (J @b1l2.eq_1 @b1l6.eq_1) @b1l7.eq_1) (J @b1l8.eq_1 @b1l13.eq_1)) (J (J (J @b1l14.eq_1 @b1l15.eq_1) @b1l16.eq_1) (J @b1l20.eq_1 @b1l21.eq_1)))))

/- (*scoria/tree.Tree).Over -/
def b2l0 : List AOp := [oD 3 (.box (.t 1)),
oD 4 (.mv (.k (.int .i64 0)))]
def b2_0 : AC := .reg b2l0
def b2l1 : List AOp := [oD 8 (.mv (.t 0)),
oD 9 (.isn .p false (.t 8)),
oD 10 (.mv (.t 9)),
oG 11 (.load (some 4) (.t 3)) 10 false,
oG 12 (.call false 26 [(.t 11)]) 10 false,
oG 13 (.un .not (.t 12)) 10 false,
oD 14 (.pick (.t 10) (.k (.bool true)) (.t 13))]
def b2_1 : AC := .reg b2l1
def b2l2 : List AOp := [oD 4 (.mv (.k (.int .i64 1)))]
def b2_2 : AC := .reg b2l2
def b2_3 : AC := .seq b2_2 .ret
def b2_4 : AC := .cond (.t 14) b2_3 .skip
def b2_5 : AC := .seq b2_1 b2_4
def b2l6 : List AOp := [oD 15 (.mv (.t 0)),
oD 16 (.faddr 0 (.t 3)),
oD 17 (.load none (.t 16)),
oD 18 (.faddr 0 (.t 3)),
oD 19 (.load none (.t 18)),
oD 20 (.faddr 1 (.t 3)),
oD 21 (.load none (.t 20)),
oD 22 (.bin .add (.t 19) (.t 21)),
oD 23 (.icall 24 [(.t 15), (.t 17), (.t 22)]),
oD 5 (.mv (.t 23))]
def b2_6 : AC := .reg b2l6
def b2l7 : List AOp := [oD 25 (.mv (.t 5)),
oD 26 (.load (some 4) (.t 3)),
oD 27 (.icall 13 [(.t 25), (.t 26)]),
oD 24 (.mv (.t 27)),
oD 28 (.ext 0 (.t 24)),
oD 29 (.ext 1 (.t 24)),
oD 6 (.mv (.t 28)),
oD 7 (.mv (.t 29))]
def b2_7 : AC := .reg b2l7
def b2l8 : List AOp := [oD 30 (.mv (.t 7)),
oD 31 (.bin .neq (.t 30) (.k (.int .i64 0)))]
def b2_8 : AC := .reg b2l8
def b2l9 : List AOp := [oD 32 (.mv (.t 7)),
oD 4 (.mv (.t 32))]
def b2_9 : AC := .reg b2l9
def b2_10 : AC := .seq b2_9 .ret
def b2_11 : AC := .cond (.t 31) b2_10 .skip
def b2_12 : AC := .seq b2_8 b2_11
def b2l13 : List AOp := [oD 33 (.mv (.t 0)),
oD 34 (.mv (.t 5)),
oD 35 (.mv (.t 6)),
oD 36 (.icall 25 [(.t 33), (.t 34), (.t 35)])]
def b2_13 : AC := .reg b2l13
def b2l14 : List AOp := [oD 4 (.mv (.k (.int .i64 0)))]
def b2_14 : AC := .reg b2l14
def b2_15 : AC := .seq b2_14 .ret
def b2_16 : AC := .seq b2_13 b2_15
def b2_17 : AC := .seq b2_12 b2_16
def b2_18 : AC := .seq b2_7 b2_17
def b2_19 : AC := .seq b2_6 b2_18
def b2_20 : AC := .seq b2_5 b2_19
def b2_21 : AC := .seq b2_0 b2_20
def ac_tree_Tree_Over : AC := b2_21
theorem cm70 : compF Tryz.prog [1000024, 1000013, 1000025] (drawR Tryz.prog [1000024, 1000013, 1000025] Tryz.f8.ntmps) [] 2 Tryz.f8 = some (ac_tree_Tree_Over, [.t 4]) := by kernel_rfl
def U70 := J oA (J (J (J (J (J @ac_tree_Tree_Over.eq_1 (@mR _ _ b2_0.eq_1)) (J (@mR _ _ b2_1.eq_1) (@mR _ _ b2_2.eq_1))) (J (J (@mU _ _ b2_3.eq_1) (@mU _ _ b2_4.eq_1)) (J (@mU _ _ b2_5.eq_1) (@mR _ _ b2_6.eq_1)))) (J (J (J (@mR _ _ b2_7.eq_1) (@mR _ _ b2_8.eq_1)) (J (@mR _ _ b2_9.eq_1) (@mU _ _ b2_10.eq_1))) (J (J (@mU _ _ b2_11.eq_1) (@mU _ _ b2_12.eq_1)) (J (@mR _ _ b2_13.eq_1) (@mR _ _ b2_14.eq_1))))) (J (J (J (J (@mU _ _ b2_15.eq_1) (@mU _ _ b2_16.eq_1)) (J (@mU _ _ b2_17.eq_1) (@mU _ _ b2_18.eq_1))) (J (J (@mU _ _ b2_19.eq_1) (@mU _ _ b2_20.eq_1)) (J (@mU _ _ b2_21.eq_1) @b2l0.eq_1))) (J (J (J @b2l1.eq_1 @b2l2.eq_1) (J @b2l6.eq_1 @b2l7.eq_1)) (J (J @b2l8.eq_1 @b2l9.eq_1) (J @b2l13.eq_1 @b2l14.eq_1)))))

/- (*scoria/tree.Tree).All -/
def b3l0 : List AOp := [oD 2 (.mv (.k (.slc [])))]
def b3_0 : AC := .reg b3l0
def b3l1 : List AOp := [oD 3 (.alloc [.nils])]
def b3_1 : AC := .reg b3l1
def b3l2 : List AOp := [oD 4 (.mv (.t 0)),
oD 5 (.mkfn (.func 28) [] [(.t 3)]),
oD 6 (.icall 27 [(.t 4), (.k (.int .i64 (-1))), (.t 5)])]
def b3_2 : AC := .reg b3l2
def b3l3 : List AOp := [oD 7 (.load none (.t 3)),
oD 2 (.mv (.t 7))]
def b3_3 : AC := .reg b3l3
def b3_4 : AC := .seq b3_3 .ret
def b3_5 : AC := .seq b3_2 b3_4
def b3_6 : AC := .seq b3_1 b3_5
def b3_7 : AC := .seq b3_0 b3_6
def ac_tree_Tree_All : AC := b3_7
theorem cm66 : compF Tryz.prog [3, 1000027] (drawR Tryz.prog [3, 1000027] Tryz.f9.ntmps) [] 1 Tryz.f9 = some (ac_tree_Tree_All, [.t 2]) := by kernel_rfl
def U66 := J oA (J (J (J (J @ac_tree_Tree_All.eq_1 (@mR _ _ b3_0.eq_1)) (J (@mR _ _ b3_1.eq_1) (@mR _ _ b3_2.eq_1))) (J (J (@mR _ _ b3_3.eq_1) (@mU _ _ b3_4.eq_1)) (@mU _ _ b3_5.eq_1))) (J (J (J (@mU _ _ b3_6.eq_1) (@mU _ _ b3_7.eq_1)) @b3l0.eq_1) (J (J @b3l1.eq_1 @b3l2.eq_1) @b3l3.eq_1)))

/- (*scoria/tree.Tree).Count -/
def b4l0 : List AOp := [oD 2 (.mv (.k (.int .i64 0)))]
def b4_0 : AC := .reg b4l0
def b4l1 : List AOp := [oD 3 (.mv (.t 0)),
oD 4 (.icall 9 [(.t 3)]),
oD 5 (.call false 17 [(.t 4)]),
oD 2 (.mv (.t 5))]
def b4_1 : AC := .reg b4l1
def b4_2 : AC := .seq b4_1 .ret
def b4_3 : AC := .seq b4_0 b4_2
def ac_tree_Tree_Count : AC := b4_3
theorem cm68 : compF Tryz.prog [1000009] (drawR Tryz.prog [1000009] Tryz.f11.ntmps) [] 1 Tryz.f11 = some (ac_tree_Tree_Count, [.t 2]) := by kernel_rfl
def U68 := J oA (J (J (J @ac_tree_Tree_Count.eq_1 (@mR _ _ b4_0.eq_1)) (J (@mR _ _ b4_1.eq_1) (@mU _ _ b4_2.eq_1))) (J (J (@mU _ _ b4_3.eq_1) @b4l0.eq_1) @b4l1.eq_1))

/- (*scoria/tree.Tree).near -/
def b6l0 : List AOp := [oD 4 (.box (.t 1)),
oD 5 (.box (.t 2)),
oD 6 (.mv (.k (.slc [])))]
def b6_0 : AC := .reg b6l0
def b6l1 : List AOp := [oD 7 (.alloc [.nils])]
def b6_1 : AC := .reg b6l1
def b6l2 : List AOp := [oD 8 (.mv (.t 0)),
oD 9 (.load none (.t 4)),
oD 10 (.bin .sub (.t 9) (.k (.int .i64 1))),
oD 11 (.mkfn (.func 48) [] [(.t 5), (.t 4), (.t 7)]),
oD 12 (.icall 27 [(.t 8), (.t 10), (.t 11)])]
def b6_2 : AC := .reg b6l2
def b6l3 : List AOp := [oD 13 (.load none (.t 7)),
oD 6 (.mv (.t 13))]
def b6_3 : AC := .reg b6l3
def b6_4 : AC := .seq b6_3 .ret
def b6_5 : AC := .seq b6_2 b6_4
def b6_6 : AC := .seq b6_1 b6_5
def b6_7 : AC := .seq b6_0 b6_6
def ac_tree_Tree_near : AC := b6_7
theorem cm72 : compF Tryz.prog [7, 1000027] (drawR Tryz.prog [7, 1000027] Tryz.f24.ntmps) [] 3 Tryz.f24 = some (ac_tree_Tree_near, [.t 6]) := by kernel_rfl
def U72 := J oA (J (J (J (J @ac_tree_Tree_near.eq_1 (@mR _ _ b6_0.eq_1)) (J (@mR _ _ b6_1.eq_1) (@mR _ _ b6_2.eq_1))) (J (J (@mR _ _ b6_3.eq_1) (@mU _ _ b6_4.eq_1)) (@mU _ _ b6_5.eq_1))) (J (J (J (@mU _ _ b6_6.eq_1) (@mU _ _ b6_7.eq_1)) @b6l0.eq_1) (J (J @b6l1.eq_1 @b6l2.eq_1) @b6l3.eq_1)))

/- (*scoria/tree.Tree).change -/
def b7l0 : List AOp := [oD 10 (.mv (.t 1)),
oD 11 (.len (.t 10)),
oD 12 (.mv (.k (.int .i64 0)))]
def b7_0 : AC := .reg b7l0
def b7l1 : List AOp := [oD 13 (.bin .lss (.t 12) (.t 11))]
def b7_1 : AC := .reg b7l1
def b7_2 : AC := .cond (.t 13) .skip (.exit 0)
def b7l3 : List AOp := [oD 14 (.isl 4 (.t 10) (.t 12)),
oD 15 (.load (some 4) (.t 14)),
oD 7 (.alloc [(.int .i64 0), (.int .i64 0), (.int .i64 0), (.int .i64 0)]),
oN (.store 4 (.t 7) (.t 15))]
def b7_3 : AC := .reg b7l3
def b7l4 : List AOp := [oD 16 (.mv (.t 2)),
oD 17 (.load (some 4) (.t 7)),
oD 18 (.call false 49 [(.t 16), (.t 17)]),
oD 19 (.un .not (.t 18))]
def b7_4 : AC := .reg b7l4
def b7l5 : List AOp := [oD 20 (.mv (.t 0)),
oD 21 (.faddr 0 (.t 7)),
oD 22 (.load none (.t 21)),
oD 23 (.icall 50 [(.t 20), (.t 22)])]
def b7_5 : AC := .reg b7l5
def b7_6 : AC := .cond (.t 19) b7_5 .skip
def b7_7 : AC := .seq b7_4 b7_6
def b7_8 : AC := .seq b7_3 b7_7
def b7_9 : AC := .block 1 b7_8
def b7l10 : List AOp := [oD 24 (.bin .add (.t 12) (.k (.int .i64 1))),
oD 12 (.mv (.t 24))]
def b7_10 : AC := .reg b7l10
def b7_11 : AC := .seq b7_9 b7_10
def b7_12 : AC := .seq b7_2 b7_11
def b7_13 : AC := .seq b7_1 b7_12
def b7_14 : AC := .loop [0, 1, 2, 10, 11, 12] 1000000000 b7_13
def b7_15 : AC := .block 0 b7_14
def b7_16 : AC := .seq b7_0 b7_15
def b7l17 : List AOp := [oD 25 (.mv (.t 2)),
oD 26 (.len (.t 25)),
oD 27 (.mv (.k (.int .i64 0)))]
def b7_17 : AC := .reg b7l17
def b7l18 : List AOp := [oD 28 (.bin .lss (.t 27) (.t 26))]
def b7_18 : AC := .reg b7l18
def b7_19 : AC := .cond (.t 28) .skip (.exit 2)
def b7l20 : List AOp := [oD 29 (.isl 4 (.t 25) (.t 27)),
oD 30 (.load (some 4) (.t 29)),
oD 9 (.alloc [(.int .i64 0), (.int .i64 0), (.int .i64 0), (.int .i64 0)]),
oN (.store 4 (.t 9) (.t 30))]
def b7_20 : AC := .reg b7l20
def b7l21 : List AOp := [oD 31 (.mv (.t 1)),
oD 32 (.load (some 4) (.t 9)),
oD 33 (.call false 49 [(.t 31), (.t 32)]),
oD 34 (.un .not (.t 33))]
def b7_21 : AC := .reg b7l21
def b7l22 : List AOp := [oD 35 (.mv (.t 0)),
oD 36 (.load (some 4) (.t 9)),
oD 37 (.icall 51 [(.t 35), (.t 36)])]
def b7_22 : AC := .reg b7l22
def b7_23 : AC := .cond (.t 34) b7_22 .skip
def b7_24 : AC := .seq b7_21 b7_23
def b7_25 : AC := .seq b7_20 b7_24
def b7_26 : AC := .block 3 b7_25
def b7l27 : List AOp := [oD 38 (.bin .add (.t 27) (.k (.int .i64 1))),
oD 27 (.mv (.t 38))]
def b7_27 : AC := .reg b7l27
def b7_28 : AC := .seq b7_26 b7_27
def b7_29 : AC := .seq b7_19 b7_28
def b7_30 : AC := .seq b7_18 b7_29
def b7_31 : AC := .loop [0, 1, 25, 26, 27] 1000000000 b7_30
def b7_32 : AC := .block 2 b7_31
def b7_33 : AC := .seq b7_17 b7_32
def b7_34 : AC := .seq b7_16 b7_33
def ac_tree_Tree_change : AC := b7_34
theorem cm71 : compF Tryz.prog [1000050, 1000051] (drawR Tryz.prog [1000050, 1000051] Tryz.f25.ntmps) [([0, 1, 2, 10, 11, 12], 1000000000), ([0, 1, 25, 26, 27], 1000000000)] 3 Tryz.f25 = some (ac_tree_Tree_change, []) := by kernel_rfl
def U71 := J oA (J (J (J (J (J (J @ac_tree_Tree_change.eq_1 (@mR _ _ b7_0.eq_1)) (@mR _ _ b7_1.eq_1)) (J (J (@mU _ _ b7_2.eq_1) (@mR _ _ b7_3.eq_1)) (@mR _ _ b7_4.eq_1))) (J (J (J (@mR _ _ b7_5.eq_1) (@mU _ _ b7_6.eq_1)) (@mU _ _ b7_7.eq_1)) (J (J (@mU _ _ b7_8.eq_1) (@mU _ _ b7_9.eq_1)) (@mR _ _ b7_10.eq_1)))) (J (J (J (J (@mU _ _ b7_11.eq_1) (@mU _ _ b7_12.eq_1)) (@mU _ _ b7_13.eq_1)) (J (J (@mU _ _ b7_14.eq_1) (@mU _ _ b7_15.eq_1)) (@mU _ _ b7_16.eq_1))) (J (J (J (@mR _ _ b7_17.eq_1) (@mR _ _ b7_18.eq_1)) (@mU _ _ b7_19.eq_1)) (J (J (@mR _ _ b7_20.eq_1) (@mR _ _ b7_21.eq_1)) (@mR _ _ b7_22.eq_1))))) (J (J (J (J (J (@mU _ _ b7_23.eq_1) (@mU _ _ b7_24.eq_1)) (@mU _ _ b7_25.eq_1)) (J (J (@mU _ _ b7_26.eq_1) (@mR _ _ b7_27.eq_1)) (@mU _ _ b7_28.eq_1))) (J (J (J (@mU _ _ b7_29.eq_1) (@mU _ _ b7_30.eq_1)) (@mU _ _ b7_31.eq_1)) (J (J (@mU _ _ b7_32.eq_1) (@mU _ _ b7_33.eq_1)) (@mU _ _ b7_34.eq_1)))) (J (J (J (J @b7l0.eq_1 @b7l1.eq_1) @b7l3.eq_1) (J (J @b7l4.eq_1 @b7l5.eq_1) @b7l10.eq_1)) (J (J (J @b7l17.eq_1 @b7l18.eq_1) @b7l20.eq_1) (J (J @b7l21.eq_1 @b7l22.eq_1) @b7l27.eq_1)))))

/- (*scoria/tree.Tree).walk -/
def b8l0 : List AOp := [oD 6 (.mv (.t 0)),
oD 7 (.isn .p true (.t 6)),
oD 8 (.mv (.t 7)),
oG 9 (.mv (.t 0)) 8 true,
oG 10 (.nilck (.t 9)) 8 true,
oG 11 (.faddr 0 (.t 10)) 8 true,
oG 12 (.load none (.t 11)) 8 true,
oG 13 (.isn .i true (.t 12)) 8 true,
oD 14 (.pick (.t 8) (.t 13) (.k (.bool false)))]
def b8_0 : AC := .reg b8l0
def b8l1 : List AOp := [oD 15 (.mv (.t 0)),
oD 16 (.nilck (.t 15)),
oD 17 (.faddr 0 (.t 16)),
oD 18 (.load none (.t 17)),
oD 19 (.mv (.t 1)),
oD 20 (.mv (.t 2)),
oD 21 (.icall 52 [(.t 18), (.t 19), (.t 20)])]
def b8_1 : AC := .reg b8l1
def b8_2 : AC := .cond (.t 14) b8_1 .skip
def b8_3 : AC := .seq b8_0 b8_2
def ac_tree_Tree_walk : AC := b8_3
theorem cm76 : compF Tryz.prog [1000052] (drawR Tryz.prog [1000052] Tryz.f27.ntmps) [] 3 Tryz.f27 = some (ac_tree_Tree_walk, []) := by kernel_rfl
def U76 := J oA (J (J (J @ac_tree_Tree_walk.eq_1 (@mR _ _ b8_0.eq_1)) (J (@mR _ _ b8_1.eq_1) (@mU _ _ b8_2.eq_1))) (J (J (@mU _ _ b8_3.eq_1) @b8l0.eq_1) @b8l1.eq_1))

/- (*scoria/tree.Tree).All$1 -/
def b9l0 : List AOp := [oD 2 (.box (.t 0)),
oD 3 (.mv (.k (.bool false)))]
def b9_0 : AC := .reg b9l0
def b9l1 : List AOp := [oD 4 (.load none (.t 1)),
oD 5 (.load (some 4) (.t 2)),
oD 6 (.blds false [(.int .i64 0), (.int .i64 0), (.int .i64 0), (.int .i64 0)] 1 [(0, (.t 5))]),
oD 7 (.app 4 32 [(.int .i64 0), (.int .i64 0), (.int .i64 0), (.int .i64 0)] (.t 4) (.t 6)),
oN (.store 1 (.t 1) (.t 7))]
def b9_1 : AC := .reg b9l1
def b9l2 : List AOp := [oD 3 (.mv (.k (.bool true)))]
def b9_2 : AC := .reg b9l2
def b9_3 : AC := .seq b9_2 .ret
def b9_4 : AC := .seq b9_1 b9_3
def b9_5 : AC := .seq b9_0 b9_4
def ac_tree_Tree_All_c1 : AC := b9_5
theorem cm67 : compF Tryz.prog [] (drawR Tryz.prog [] Tryz.f28.ntmps) [] 2 Tryz.f28 = some (ac_tree_Tree_All_c1, [.t 3]) := by kernel_rfl
def U67 := J oA (J (J (J (J @ac_tree_Tree_All_c1.eq_1 (@mR _ _ b9_0.eq_1)) (@mR _ _ b9_1.eq_1)) (J (@mR _ _ b9_2.eq_1) (@mU _ _ b9_3.eq_1))) (J (J (J (@mU _ _ b9_4.eq_1) (@mU _ _ b9_5.eq_1)) @b9l0.eq_1) (J @b9l1.eq_1 @b9l2.eq_1)))

/- (*scoria/tree.Tree).near$1 -/
def b11l0 : List AOp := [oD 4 (.box (.t 0)),
oD 5 (.mv (.k (.bool false)))]
def b11_0 : AC := .reg b11l0
def b11l1 : List AOp := [oD 6 (.faddr 0 (.t 4)),
oD 7 (.load none (.t 6)),
oD 8 (.load none (.t 1)),
oD 9 (.bin .gtr (.t 7) (.t 8))]
def b11_1 : AC := .reg b11l1
def b11l2 : List AOp := [oD 5 (.mv (.k (.bool false)))]
def b11_2 : AC := .reg b11l2
def b11_3 : AC := .seq b11_2 .ret
def b11_4 : AC := .cond (.t 9) b11_3 .skip
def b11_5 : AC := .seq b11_1 b11_4
def b11l6 : List AOp := [oD 10 (.faddr 0 (.t 4)),
oD 11 (.load none (.t 10)),
oD 12 (.faddr 1 (.t 4)),
oD 13 (.load none (.t 12)),
oD 14 (.bin .add (.t 11) (.t 13)),
oD 15 (.load none (.t 2)),
oD 16 (.bin .geq (.t 14) (.t 15))]
def b11_6 : AC := .reg b11l6
def b11l7 : List AOp := [oD 17 (.load none (.t 3)),
oD 18 (.load (some 4) (.t 4)),
oD 19 (.blds false [(.int .i64 0), (.int .i64 0), (.int .i64 0), (.int .i64 0)] 1 [(0, (.t 18))]),
oD 20 (.app 4 32 [(.int .i64 0), (.int .i64 0), (.int .i64 0), (.int .i64 0)] (.t 17) (.t 19)),
oN (.store 1 (.t 3) (.t 20))]
def b11_7 : AC := .reg b11l7
def b11_8 : AC := .cond (.t 16) b11_7 .skip
def b11_9 : AC := .seq b11_6 b11_8
def b11l10 : List AOp := [oD 5 (.mv (.k (.bool true)))]
def b11_10 : AC := .reg b11l10
def b11_11 : AC := .seq b11_10 .ret
def b11_12 : AC := .seq b11_9 b11_11
def b11_13 : AC := .seq b11_5 b11_12
def b11_14 : AC := .seq b11_0 b11_13
def ac_tree_Tree_near_c1 : AC := b11_14
theorem cm73 : compF Tryz.prog [] (drawR Tryz.prog [] Tryz.f48.ntmps) [] 4 Tryz.f48 = some (ac_tree_Tree_near_c1, [.t 5]) := by kernel_rfl
def U73 := J oA (J (J (J (J (J @ac_tree_Tree_near_c1.eq_1 (@mR _ _ b11_0.eq_1)) (@mR _ _ b11_1.eq_1)) (J (J (@mR _ _ b11_2.eq_1) (@mU _ _ b11_3.eq_1)) (@mU _ _ b11_4.eq_1))) (J (J (J (@mU _ _ b11_5.eq_1) (@mR _ _ b11_6.eq_1)) (@mR _ _ b11_7.eq_1)) (J (@mU _ _ b11_8.eq_1) (@mU _ _ b11_9.eq_1)))) (J (J (J (J (@mR _ _ b11_10.eq_1) (@mU _ _ b11_11.eq_1)) (@mU _ _ b11_12.eq_1)) (J (J (@mU _ _ b11_13.eq_1) (@mU _ _ b11_14.eq_1)) @b11l0.eq_1)) (J (J (J @b11l1.eq_1 @b11l2.eq_1) @b11l6.eq_1) (J @b11l7.eq_1 @b11l10.eq_1))))

/- (*scoria/tree.Tree).take -/
def b12l0 : List AOp := [oD 6 (.mv (.t 0)),
oD 7 (.nilck (.t 6)),
oD 8 (.faddr 0 (.t 7)),
oD 9 (.load none (.t 8)),
oD 10 (.mv (.t 1)),
oD 11 (.icall 71 [(.t 9), (.t 10)])]
def b12_0 : AC := .reg b12l0
def b12l1 : List AOp := [oD 12 (.mv (.t 0)),
oD 13 (.nilck (.t 12)),
oD 14 (.faddr 0 (.t 13)),
oD 15 (.load none (.t 14))]
def b12_1 : AC := .reg b12l1
def b12l2 : List AOp := [oD 16 (.tas 135 (.t 15)),
oD 17 (.ext 1 (.t 16)),
oD 18 (.ext 0 (.t 16))]
def b12_2 : AC := .reg b12l2
def b12l3 : List AOp := [oD 4 (.mv (.t 18))]
def b12_3 : AC := .reg b12l3
def b12l4 : List AOp := [oD 19 (.mv (.t 4)),
oD 20 (.nilck (.t 19)),
oD 21 (.faddr 1 (.t 20)),
oD 22 (.load none (.t 21)),
oD 23 (.arr .len [(.t 22)]),
oD 24 (.bin .eql (.t 23) (.k (.int .i64 0)))]
def b12_4 : AC := .reg b12l4
def b12l5 : List AOp := [oD 25 (.mv (.t 0)),
oD 26 (.nilck (.t 25)),
oD 27 (.faddr 0 (.t 26)),
oN (.store 1 (.t 27) (.k .nili))]
def b12_5 : AC := .reg b12l5
def b12_6 : AC := .cond (.t 24) b12_5 .skip
def b12_7 : AC := .seq b12_4 b12_6
def b12_8 : AC := .seq b12_3 b12_7
def b12l9 : List AOp := [oD 28 (.tas 138 (.t 15)),
oD 29 (.ext 1 (.t 28)),
oD 30 (.ext 0 (.t 28))]
def b12_9 : AC := .reg b12l9
def b12l10 : List AOp := [oD 5 (.mv (.t 30))]
def b12_10 : AC := .reg b12l10
def b12l11 : List AOp := [oD 31 (.mv (.t 5)),
oD 32 (.nilck (.t 31)),
oD 33 (.faddr 1 (.t 32)),
oD 34 (.load none (.t 33)),
oD 35 (.arr .len [(.t 34)]),
oD 36 (.bin .eql (.t 35) (.k (.int .i64 1)))]
def b12_11 : AC := .reg b12l11
def b12l12 : List AOp := [oD 37 (.mv (.t 0)),
oD 38 (.mv (.t 5)),
oD 39 (.nilck (.t 38)),
oD 40 (.faddr 1 (.t 39)),
oD 41 (.load none (.t 40)),
oD 42 (.arr (.ix 1) [(.t 41), (.k (.int .i64 0))]),
oD 43 (.load none (.t 42)),
oD 44 (.nilck (.t 37)),
oD 45 (.faddr 0 (.t 44)),
oN (.store 1 (.t 45) (.t 43))]
def b12_12 : AC := .reg b12l12
def b12_13 : AC := .cond (.t 36) b12_12 .skip
def b12_14 : AC := .seq b12_11 b12_13
def b12_15 : AC := .seq b12_10 b12_14
def b12_16 : AC := .cond (.t 29) b12_15 .skip
def b12_17 : AC := .seq b12_9 b12_16
def b12_18 : AC := .cond (.t 17) b12_8 b12_17
def b12_19 : AC := .seq b12_2 b12_18
def b12_20 : AC := .block 0 b12_19
def b12_21 : AC := .seq b12_1 b12_20
def b12_22 : AC := .seq b12_0 b12_21
def ac_tree_Tree_take : AC := b12_22
theorem cm75 : compF Tryz.prog [1000071, 7000000, 9000000] (drawR Tryz.prog [1000071, 7000000, 9000000] Tryz.f50.ntmps) [] 2 Tryz.f50 = some (ac_tree_Tree_take, []) := by kernel_rfl
def U75 := J oA (J (J (J (J (J (J @ac_tree_Tree_take.eq_1 (@mR _ _ b12_0.eq_1)) (@mR _ _ b12_1.eq_1)) (J (@mR _ _ b12_2.eq_1) (@mR _ _ b12_3.eq_1))) (J (J (@mR _ _ b12_4.eq_1) (@mR _ _ b12_5.eq_1)) (J (@mU _ _ b12_6.eq_1) (@mU _ _ b12_7.eq_1)))) (J (J (J (@mU _ _ b12_8.eq_1) (@mR _ _ b12_9.eq_1)) (J (@mR _ _ b12_10.eq_1) (@mR _ _ b12_11.eq_1))) (J (J (@mR _ _ b12_12.eq_1) (@mU _ _ b12_13.eq_1)) (J (@mU _ _ b12_14.eq_1) (@mU _ _ b12_15.eq_1))))) (J (J (J (J (J (@mU _ _ b12_16.eq_1) (@mU _ _ b12_17.eq_1)) (@mU _ _ b12_18.eq_1)) (J (@mU _ _ b12_19.eq_1) (@mU _ _ b12_20.eq_1))) (J (J (@mU _ _ b12_21.eq_1) (@mU _ _ b12_22.eq_1)) (J @b12l0.eq_1 @b12l1.eq_1))) (J (J (J @b12l2.eq_1 @b12l3.eq_1) (J @b12l4.eq_1 @b12l5.eq_1)) (J (J @b12l9.eq_1 @b12l10.eq_1) (J @b12l11.eq_1 @b12l12.eq_1)))))

/- (*scoria/tree.Tree).put -/
def b13l0 : List AOp := [oD 3 (.box (.t 1))]
def b13_0 : AC := .reg b13l0
def b13l1 : List AOp := [oD 5 (.mv (.t 0)),
oD 6 (.nilck (.t 5)),
oD 7 (.faddr 0 (.t 6)),
oD 8 (.load none (.t 7)),
oD 9 (.isn .i false (.t 8))]
def b13_1 : AC := .reg b13l1
def b13l2 : List AOp := [oD 10 (.mv (.t 0)),
oD 11 (.load (some 4) (.t 3)),
oD 12 (.alit [(.int .i64 0), (.int .i64 0), (.int .i64 0), (.int .i64 0)] 1 [(0, (.t 11))]),
oD 13 (.build [(.int .i64 0), (.slc [])] [(0, 1, (.k (.int .i64 (-1)))), (1, 1, (.t 12))]),
oD 14 (.box (.t 13)),
oD 15 (.mki 135 (.t 14)),
oD 16 (.nilck (.t 10)),
oD 17 (.faddr 0 (.t 16)),
oN (.store 1 (.t 17) (.t 15))]
def b13_2 : AC := .reg b13l2
def b13_3 : AC := .seq b13_2 .ret
def b13_4 : AC := .cond (.t 9) b13_3 .skip
def b13_5 : AC := .seq b13_1 b13_4
def b13l6 : List AOp := [oD 18 (.mv (.t 0)),
oD 19 (.nilck (.t 18)),
oD 20 (.faddr 0 (.t 19)),
oD 21 (.load none (.t 20)),
oD 22 (.load (some 4) (.t 3)),
oD 23 (.icall 72 [(.t 21), (.t 22)]),
oD 4 (.mv (.t 23))]
def b13_6 : AC := .dreg 0 b13l6
def b13l7 : List AOp := [oD 24 (.mv (.t 4)),
oD 25 (.isn .i true (.t 24))]
def b13_7 : AC := .reg b13l7
def b13l8 : List AOp := [oD 26 (.mv (.t 0)),
oD 27 (.mv (.t 0)),
oD 28 (.nilck (.t 27)),
oD 29 (.faddr 0 (.t 28)),
oD 30 (.load none (.t 29)),
oD 31 (.mv (.t 4)),
oD 32 (.alit [.nili] 2 [(0, (.t 30)), (1, (.t 31))]),
oD 33 (.build [(.int .i64 0), (.slc [])] [(0, 1, (.k (.int .i64 (-1)))), (1, 1, (.t 32))]),
oD 34 (.box (.t 33)),
oD 35 (.mki 138 (.t 34)),
oD 36 (.nilck (.t 26)),
oD 37 (.faddr 0 (.t 36)),
oN (.store 1 (.t 37) (.t 35))]
def b13_8 : AC := .reg b13l8
def b13_9 : AC := .cond (.t 25) b13_8 .skip
def b13_10 : AC := .seq b13_7 b13_9
def b13_11 : AC := .seq b13_6 b13_10
def b13_12 : AC := .seq b13_5 b13_11
def b13_13 : AC := .seq b13_0 b13_12
def ac_tree_Tree_put : AC := b13_13
theorem cm74 : compF Tryz.prog [1000072, 7000000, 9000000] (drawR Tryz.prog [1000072, 7000000, 9000000] Tryz.f51.ntmps) [] 2 Tryz.f51 = some (ac_tree_Tree_put, []) := by kernel_rfl
def U74 := J oA (J (J (J (J (J @ac_tree_Tree_put.eq_1 (@mR _ _ b13_0.eq_1)) (@mR _ _ b13_1.eq_1)) (J (J (@mR _ _ b13_2.eq_1) (@mU _ _ b13_3.eq_1)) (@mU _ _ b13_4.eq_1))) (J (J (J (@mU _ _ b13_5.eq_1) (@mD _ _ _ b13_6.eq_1)) (@mR _ _ b13_7.eq_1)) (J (@mR _ _ b13_8.eq_1) (@mU _ _ b13_9.eq_1)))) (J (J (J (J (@mU _ _ b13_10.eq_1) (@mU _ _ b13_11.eq_1)) (@mU _ _ b13_12.eq_1)) (J (@mU _ _ b13_13.eq_1) @b13l0.eq_1)) (J (J (J @b13l1.eq_1 @b13l2.eq_1) @b13l6.eq_1) (J @b13l7.eq_1 @b13l8.eq_1))))

/- scoria/tree.from -/
def b14l0 : List AOp := [oD 6 (.mv (.k (.bool false)))]
def b14_0 : AC := .reg b14l0
def b14l1 : List AOp := [oD 13 (.mv (.t 0))]
def b14_1 : AC := .reg b14l1
def b14l2 : List AOp := [oD 14 (.tas 135 (.t 13)),
oD 15 (.ext 1 (.t 14)),
oD 16 (.ext 0 (.t 14))]
def b14_2 : AC := .reg b14l2
def b14l3 : List AOp := [oD 7 (.mv (.t 16))]
def b14_3 : AC := .reg b14l3
def b14l4 : List AOp := [oD 17 (.mv (.t 7)),
oD 18 (.nilck (.t 17)),
oD 19 (.faddr 1 (.t 18)),
oD 20 (.load none (.t 19)),
oD 21 (.arr .len [(.t 20)]),
oD 22 (.mv (.k (.int .i64 0)))]
def b14_4 : AC := .reg b14l4
def b14l5 : List AOp := [oD 23 (.bin .lss (.t 22) (.t 21))]
def b14_5 : AC := .reg b14l5
def b14_6 : AC := .cond (.t 23) .skip (.exit 1)
def b14l7 : List AOp := [oD 24 (.arr (.ix 4) [(.t 20), (.t 22)]),
oD 25 (.load (some 4) (.t 24)),
oD 9 (.alloc [(.int .i64 0), (.int .i64 0), (.int .i64 0), (.int .i64 0)]),
oN (.store 4 (.t 9) (.t 25))]
def b14_7 : AC := .reg b14l7
def b14l8 : List AOp := [oD 26 (.faddr 0 (.t 9)),
oD 27 (.load none (.t 26)),
oD 28 (.faddr 1 (.t 9)),
oD 29 (.load none (.t 28)),
oD 30 (.bin .add (.t 27) (.t 29)),
oD 31 (.mv (.t 1)),
oD 32 (.bin .gtr (.t 30) (.t 31)),
oD 33 (.mv (.t 32)),
oG 34 (.mv (.t 2)) 33 true,
oG 35 (.load (some 4) (.t 9)) 33 true,
oG 36 (.icallv (.t 34) [(.t 35)]) 33 true,
oG 37 (.un .not (.t 36)) 33 true,
oD 38 (.pick (.t 33) (.t 37) (.k (.bool false)))]
def b14_8 : AC := .reg b14l8
def b14l9 : List AOp := [oD 6 (.mv (.k (.bool false)))]
def b14_9 : AC := .reg b14l9
def b14_10 : AC := .seq b14_9 .ret
def b14_11 : AC := .cond (.t 38) b14_10 .skip
def b14_12 : AC := .seq b14_8 b14_11
def b14_13 : AC := .seq b14_7 b14_12
def b14_14 : AC := .block 2 b14_13
def b14l15 : List AOp := [oD 39 (.bin .add (.t 22) (.k (.int .i64 1))),
oD 22 (.mv (.t 39))]
def b14_15 : AC := .reg b14l15
def b14_16 : AC := .seq b14_14 b14_15
def b14_17 : AC := .seq b14_6 b14_16
def b14_18 : AC := .seq b14_5 b14_17
def b14_19 : AC := .loop [1, 2, 20, 21, 22] 1000000000 b14_18
def b14_20 : AC := .block 1 b14_19
def b14_21 : AC := .seq b14_4 b14_20
def b14_22 : AC := .seq b14_3 b14_21
def b14l23 : List AOp := [oD 40 (.tas 138 (.t 13)),
oD 41 (.ext 1 (.t 40)),
oD 42 (.ext 0 (.t 40))]
def b14_23 : AC := .reg b14l23
def b14l24 : List AOp := [oD 10 (.mv (.t 42))]
def b14_24 : AC := .reg b14l24
def b14l25 : List AOp := [oD 43 (.mv (.t 10)),
oD 44 (.nilck (.t 43)),
oD 45 (.faddr 1 (.t 44)),
oD 46 (.load none (.t 45)),
oD 47 (.mv (.t 10)),
oD 48 (.mv (.t 1)),
oD 49 (.rcall 73 [(.t 47), (.t 48)]),
oD 50 (.arr (.sl 1 true false false) [(.t 46), (.t 49), (.k .bot), (.k .bot)]),
oD 51 (.arr .len [(.t 50)]),
oD 52 (.mv (.k (.int .i64 0)))]
def b14_25 : AC := .dreg 0 b14l25
def b14l26 : List AOp := [oD 53 (.bin .lss (.t 52) (.t 51))]
def b14_26 : AC := .reg b14l26
def b14_27 : AC := .cond (.t 53) .skip (.exit 3)
def b14l28 : List AOp := [oD 54 (.arr (.ix 1) [(.t 50), (.t 52)]),
oD 55 (.load none (.t 54)),
oD 12 (.mv (.t 55))]
def b14_28 : AC := .reg b14l28
def b14l29 : List AOp := [oD 56 (.mv (.t 12)),
oD 57 (.mv (.t 1)),
oD 58 (.mv (.t 2)),
oD 59 (.icall 52 [(.t 56), (.t 57), (.t 58)]),
oD 60 (.un .not (.t 59))]
def b14_29 : AC := .reg b14l29
def b14l30 : List AOp := [oD 6 (.mv (.k (.bool false)))]
def b14_30 : AC := .reg b14l30
def b14_31 : AC := .seq b14_30 .ret
def b14_32 : AC := .cond (.t 60) b14_31 .skip
def b14_33 : AC := .seq b14_29 b14_32
def b14_34 : AC := .seq b14_28 b14_33
def b14_35 : AC := .block 4 b14_34
def b14l36 : List AOp := [oD 61 (.bin .add (.t 52) (.k (.int .i64 1))),
oD 52 (.mv (.t 61))]
def b14_36 : AC := .reg b14l36
def b14_37 : AC := .seq b14_35 b14_36
def b14_38 : AC := .seq b14_27 b14_37
def b14_39 : AC := .seq b14_26 b14_38
def b14_40 : AC := .loop [1, 2, 50, 51, 52] 1000000000 b14_39
def b14_41 : AC := .block 3 b14_40
def b14_42 : AC := .seq b14_25 b14_41
def b14_43 : AC := .seq b14_24 b14_42
def b14_44 : AC := .cond (.t 41) b14_43 .skip
def b14_45 : AC := .seq b14_23 b14_44
def b14_46 : AC := .cond (.t 15) b14_22 b14_45
def b14_47 : AC := .seq b14_2 b14_46
def b14_48 : AC := .block 0 b14_47
def b14_49 : AC := .seq b14_1 b14_48
def b14l50 : List AOp := [oD 6 (.mv (.k (.bool true)))]
def b14_50 : AC := .reg b14l50
def b14_51 : AC := .seq b14_50 .ret
def b14_52 : AC := .seq b14_49 b14_51
def b14_53 : AC := .seq b14_0 b14_52
def ac_tree_from : AC := b14_53
theorem cm79 : compF Tryz.prog [4000073, 1000052, 2000000, 7000000, 9000000] (drawR Tryz.prog [4000073, 1000052, 2000000, 7000000, 9000000] Tryz.f52.ntmps) [([1, 2, 20, 21, 22], 1000000000), ([1, 2, 50, 51, 52], 1000000000)] 3 Tryz.f52 = some (ac_tree_from, [.t 6]) := by kernel_rfl
def U79 := J oA (J (J (J (J (J (J (J @ac_tree_from.eq_1 (@mR _ _ b14_0.eq_1)) (@mR _ _ b14_1.eq_1)) (J (@mR _ _ b14_2.eq_1) (@mR _ _ b14_3.eq_1))) (J (J (J (@mR _ _ b14_4.eq_1) (@mR _ _ b14_5.eq_1)) (@mU _ _ b14_6.eq_1)) (J (@mR _ _ b14_7.eq_1) (@mR _ _ b14_8.eq_1)))) (J (J (J (J (@mR _ _ b14_9.eq_1) (@mU _ _ b14_10.eq_1)) (@mU _ _ b14_11.eq_1)) (J (@mU _ _ b14_12.eq_1) (@mU _ _ b14_13.eq_1))) (J (J (@mU _ _ b14_14.eq_1) (@mR _ _ b14_15.eq_1)) (J (@mU _ _ b14_16.eq_1) (@mU _ _ b14_17.eq_1))))) (J (J (J (J (J (@mU _ _ b14_18.eq_1) (@mU _ _ b14_19.eq_1)) (@mU _ _ b14_20.eq_1)) (J (@mU _ _ b14_21.eq_1) (@mU _ _ b14_22.eq_1))) (J (J (@mR _ _ b14_23.eq_1) (@mR _ _ b14_24.eq_1)) (J (@mD _ _ _ b14_25.eq_1) (@mR _ _ b14_26.eq_1)))) (J (J (J (J (@mU _ _ b14_27.eq_1) (@mR _ _ b14_28.eq_1)) (@mR _ _ b14_29.eq_1)) (J (@mR _ _ b14_30.eq_1) (@mU _ _ b14_31.eq_1))) (J (J (@mU _ _ b14_32.eq_1) (@mU _ _ b14_33.eq_1)) (J (@mU _ _ b14_34.eq_1) (@mU _ _ b14_35.eq_1)))))) (J (J (J (J (J (J (@mR _ _ b14_36.eq_1) (@mU _ _ b14_37.eq_1)) (@mU _ _ b14_38.eq_1)) (J (@mU _ _ b14_39.eq_1) (@mU _ _ b14_40.eq_1))) (J (J (J (@mU _ _ b14_41.eq_1) (@mU _ _ b14_42.eq_1)) (@mU _ _ b14_43.eq_1)) (J (@mU _ _ b14_44.eq_1) (@mU _ _ b14_45.eq_1)))) (J (J (J (J (@mU _ _ b14_46.eq_1) (@mU _ _ b14_47.eq_1)) (@mU _ _ b14_48.eq_1)) (J (@mU _ _ b14_49.eq_1) (@mR _ _ b14_50.eq_1))) (J (J (@mU _ _ b14_51.eq_1) (@mU _ _ b14_52.eq_1)) (J (@mU _ _ b14_53.eq_1) @b14l0.eq_1)))) (J (J (J (J (J @b14l1.eq_1 @b14l2.eq_1) @b14l3.eq_1) (J @b14l4.eq_1 @b14l5.eq_1)) (J (J @b14l7.eq_1 @b14l8.eq_1) (J @b14l9.eq_1 @b14l15.eq_1))) (J (J (J (J @b14l23.eq_1 @b14l24.eq_1) @b14l25.eq_1) (J @b14l26.eq_1 @b14l28.eq_1)) (J (J @b14l29.eq_1 @b14l30.eq_1) (J @b14l36.eq_1 @b14l50.eq_1))))))

/- scoria/tree.remove -/
def b15l0 : List AOp := [oD 3 (.box (.t 1))]
def b15_0 : AC := .reg b15l0
def b15l1 : List AOp := [oD 7 (.mv (.t 0)),
oD 8 (.icalli "scoria/tree.where" (.t 7) []),
oD 9 (.nilck (.t 8)),
oN (.store 1 (.t 9) (.k (.int .i64 (-1))))]
def b15_1 : AC := .reg b15l1
def b15l2 : List AOp := [oD 10 (.mv (.t 0))]
def b15_2 : AC := .reg b15l2
def b15l3 : List AOp := [oD 11 (.tas 135 (.t 10)),
oD 12 (.ext 1 (.t 11)),
oD 13 (.ext 0 (.t 11))]
def b15_3 : AC := .reg b15l3
def b15l4 : List AOp := [oD 4 (.mv (.t 13))]
def b15_4 : AC := .reg b15l4
def b15l5 : List AOp := [oD 14 (.mv (.t 4)),
oD 15 (.mv (.t 4)),
oD 16 (.nilck (.t 15)),
oD 17 (.faddr 1 (.t 16)),
oD 18 (.load none (.t 17)),
oD 19 (.mkfn (.func 81) [] [(.t 3)]),
oD 20 (.icall 80 [(.t 18), (.t 19)]),
oD 21 (.nilck (.t 14)),
oD 22 (.faddr 1 (.t 21)),
oN (.store 1 (.t 22) (.t 20))]
def b15_5 : AC := .reg b15l5
def b15_6 : AC := .seq b15_4 b15_5
def b15l7 : List AOp := [oD 23 (.tas 138 (.t 10)),
oD 24 (.ext 1 (.t 23)),
oD 25 (.ext 0 (.t 23))]
def b15_7 : AC := .reg b15l7
def b15l8 : List AOp := [oD 5 (.mv (.t 25))]
def b15_8 : AC := .reg b15l8
def b15l9 : List AOp := [oD 26 (.mv (.t 5)),
oD 27 (.load none (.t 3)),
oD 28 (.rcall 73 [(.t 26), (.t 27)]),
oD 6 (.mv (.t 28))]
def b15_9 : AC := .reg b15l9
def b15l10 : List AOp := [oD 29 (.mv (.t 5)),
oD 30 (.nilck (.t 29)),
oD 31 (.faddr 1 (.t 30)),
oD 32 (.load none (.t 31)),
oD 33 (.mv (.t 6)),
oD 34 (.arr (.ix 1) [(.t 32), (.t 33)]),
oD 35 (.load none (.t 34)),
oD 36 (.load none (.t 3)),
oD 37 (.icall 71 [(.t 35), (.t 36)])]
def b15_10 : AC := .dreg 0 b15l10
def b15l11 : List AOp := [oD 38 (.mv (.t 5)),
oD 39 (.nilck (.t 38)),
oD 40 (.faddr 1 (.t 39)),
oD 41 (.load none (.t 40)),
oD 42 (.mv (.t 6)),
oD 43 (.arr (.ix 1) [(.t 41), (.t 42)]),
oD 44 (.load none (.t 43)),
oD 45 (.rcalli "scoria/tree.size" (.t 44) []),
oD 46 (.bin .lss (.t 45) (.k (.int .i64 4)))]
def b15_11 : AC := .reg b15l11
def b15l12 : List AOp := [oD 47 (.mv (.t 5)),
oD 48 (.mv (.t 6)),
oD 49 (.icall 82 [(.t 47), (.t 48)])]
def b15_12 : AC := .reg b15l12
def b15_13 : AC := .cond (.t 46) b15_12 .skip
def b15_14 : AC := .seq b15_11 b15_13
def b15_15 : AC := .seq b15_10 b15_14
def b15_16 : AC := .seq b15_9 b15_15
def b15_17 : AC := .seq b15_8 b15_16
def b15_18 : AC := .cond (.t 24) b15_17 .skip
def b15_19 : AC := .seq b15_7 b15_18
def b15_20 : AC := .cond (.t 12) b15_6 b15_19
def b15_21 : AC := .seq b15_3 b15_20
def b15_22 : AC := .block 0 b15_21
def b15_23 : AC := .seq b15_2 b15_22
def b15_24 : AC := .seq b15_1 b15_23
def b15_25 : AC := .seq b15_0 b15_24
def ac_tree_remove : AC := b15_25
theorem cm91 : compF Tryz.prog [1000080, 4000073, 1000071, 1000082, 7000000, 9000000] (drawR Tryz.prog [1000080, 4000073, 1000071, 1000082, 7000000, 9000000] Tryz.f71.ntmps) [] 2 Tryz.f71 = some (ac_tree_remove, []) := by kernel_rfl
def U91 := J oA (J (J (J (J (J (J @ac_tree_remove.eq_1 (@mR _ _ b15_0.eq_1)) (@mR _ _ b15_1.eq_1)) (J (@mR _ _ b15_2.eq_1) (@mR _ _ b15_3.eq_1))) (J (J (J (@mR _ _ b15_4.eq_1) (@mR _ _ b15_5.eq_1)) (@mU _ _ b15_6.eq_1)) (J (@mR _ _ b15_7.eq_1) (@mR _ _ b15_8.eq_1)))) (J (J (J (J (@mR _ _ b15_9.eq_1) (@mD _ _ _ b15_10.eq_1)) (@mR _ _ b15_11.eq_1)) (J (@mR _ _ b15_12.eq_1) (@mU _ _ b15_13.eq_1))) (J (J (J (@mU _ _ b15_14.eq_1) (@mU _ _ b15_15.eq_1)) (@mU _ _ b15_16.eq_1)) (J (@mU _ _ b15_17.eq_1) (@mU _ _ b15_18.eq_1))))) (J (J (J (J (J (@mU _ _ b15_19.eq_1) (@mU _ _ b15_20.eq_1)) (@mU _ _ b15_21.eq_1)) (J (@mU _ _ b15_22.eq_1) (@mU _ _ b15_23.eq_1))) (J (J (J (@mU _ _ b15_24.eq_1) (@mU _ _ b15_25.eq_1)) @b15l0.eq_1) (J @b15l1.eq_1 @b15l2.eq_1))) (J (J (J (J @b15l3.eq_1 @b15l4.eq_1) @b15l5.eq_1) (J @b15l7.eq_1 @b15l8.eq_1)) (J (J @b15l9.eq_1 @b15l10.eq_1) (J @b15l11.eq_1 @b15l12.eq_1)))))

/- scoria/tree.insert -/
def b16l0 : List AOp := [oD 3 (.box (.t 1)),
oD 4 (.mv (.k .nili))]
def b16_0 : AC := .reg b16l0
def b16l1 : List AOp := [oD 13 (.mv (.t 0)),
oD 14 (.icalli "scoria/tree.where" (.t 13) []),
oD 15 (.nilck (.t 14)),
oN (.store 1 (.t 15) (.k (.int .i64 (-1))))]
def b16_1 : AC := .reg b16l1
def b16l2 : List AOp := [oD 16 (.mv (.t 0))]
def b16_2 : AC := .reg b16l2
def b16l3 : List AOp := [oD 17 (.tas 135 (.t 16)),
oD 18 (.ext 1 (.t 17)),
oD 19 (.ext 0 (.t 17))]
def b16_3 : AC := .reg b16l3
def b16l4 : List AOp := [oD 5 (.mv (.t 19))]
def b16_4 : AC := .reg b16l4
def b16l5 : List AOp := [oD 21 (.mv (.t 5)),
oD 22 (.nilck (.t 21)),
oD 23 (.faddr 1 (.t 22)),
oD 24 (.load none (.t 23)),
oD 25 (.faddr 0 (.t 3)),
oD 26 (.load none (.t 25)),
oD 27 (.rcall 83 [(.t 24), (.t 26), (.k (.fn (.func 84) [] []))]),
oD 20 (.mv (.t 27)),
oD 28 (.ext 0 (.t 20)),
oD 29 (.ext 1 (.t 20)),
oD 6 (.mv (.t 28)),
oD 7 (.mv (.t 29))]
def b16_5 : AC := .dreg 0 b16l5
def b16l6 : List AOp := [oD 30 (.mv (.t 5)),
oD 31 (.mv (.t 5)),
oD 32 (.nilck (.t 31)),
oD 33 (.faddr 1 (.t 32)),
  ⟨(some 34), .load none (.t 33), none, none, [0], none⟩,
oD 35 (.mv (.t 6)),
oD 36 (.load (some 4) (.t 3)),
  ⟨(some 37), .alit [(.int .i64 0), (.int .i64 0), (.int .i64 0), (.int .i64 0)] 1 [(0, (.t 36))], none, (some 0), [], none⟩,
oD 38 (.icall 85 [(.t 34), (.t 35), (.t 37)]),
oD 39 (.nilck (.t 30)),
oD 40 (.faddr 1 (.t 39)),
oN (.store 1 (.t 40) (.t 38))]
def b16_6 : AC := .dreg 1 b16l6
def b16l7 : List AOp := [oD 41 (.mv (.t 5)),
oD 42 (.nilck (.t 41)),
oD 43 (.faddr 1 (.t 42)),
oD 44 (.load none (.t 43)),
oD 45 (.arr .len [(.t 44)]),
oD 46 (.bin .gtr (.t 45) (.k (.int .i64 8)))]
def b16_7 : AC := .reg b16l7
def b16l8 : List AOp := [oD 47 (.build [(.int .i64 0), (.slc [])] [(0, 1, (.k (.int .i64 (-1))))]),
oD 48 (.box (.t 47)),
oD 8 (.mv (.t 48))]
def b16_8 : AC := .reg b16l8
def b16l9 : List AOp := [oD 50 (.mv (.t 5)),
oD 51 (.mv (.t 8)),
oD 52 (.mv (.t 5)),
oD 53 (.nilck (.t 52)),
oD 54 (.faddr 1 (.t 53)),
oD 55 (.load none (.t 54)),
oD 56 (.icall 86 [(.t 55)]),
oD 49 (.mv (.t 56)),
oD 57 (.ext 0 (.t 49)),
oD 58 (.ext 1 (.t 49)),
oD 59 (.nilck (.t 50)),
oD 60 (.faddr 1 (.t 59)),
oN (.store 1 (.t 60) (.t 57)),
oD 61 (.nilck (.t 51)),
oD 62 (.faddr 1 (.t 61)),
oN (.store 1 (.t 62) (.t 58))]
def b16_9 : AC := .reg b16l9
def b16l10 : List AOp := [oD 63 (.mv (.t 8)),
oD 64 (.mki 135 (.t 63)),
oD 4 (.mv (.t 64))]
def b16_10 : AC := .reg b16l10
def b16_11 : AC := .seq b16_10 .ret
def b16_12 : AC := .seq b16_9 b16_11
def b16_13 : AC := .seq b16_8 b16_12
def b16_14 : AC := .cond (.t 46) b16_13 .skip
def b16_15 : AC := .seq b16_7 b16_14
def b16_16 : AC := .seq b16_6 b16_15
def b16_17 : AC := .seq b16_5 b16_16
def b16_18 : AC := .seq b16_4 b16_17
def b16l19 : List AOp := [oD 65 (.tas 138 (.t 16)),
oD 66 (.ext 1 (.t 65)),
oD 67 (.ext 0 (.t 65))]
def b16_19 : AC := .reg b16l19
def b16l20 : List AOp := [oD 9 (.mv (.t 67))]
def b16_20 : AC := .reg b16l20
def b16l21 : List AOp := [oD 68 (.mv (.t 9)),
oD 69 (.faddr 0 (.t 3)),
oD 70 (.load none (.t 69)),
oD 71 (.rcall 73 [(.t 68), (.t 70)]),
oD 10 (.mv (.t 71))]
def b16_21 : AC := .reg b16l21
def b16l22 : List AOp := [oD 72 (.mv (.t 9)),
oD 73 (.nilck (.t 72)),
oD 74 (.faddr 1 (.t 73)),
oD 75 (.load none (.t 74)),
oD 76 (.mv (.t 10)),
oD 77 (.arr (.ix 1) [(.t 75), (.t 76)]),
oD 78 (.load none (.t 77)),
oD 79 (.load (some 4) (.t 3)),
oD 80 (.icall 72 [(.t 78), (.t 79)]),
oD 11 (.mv (.t 80))]
def b16_22 : AC := .dreg 0 b16l22
def b16l23 : List AOp := [oD 81 (.mv (.t 11)),
oD 82 (.isn .i false (.t 81))]
def b16_23 : AC := .reg b16l23
def b16l24 : List AOp := [oD 4 (.mv (.k .nili))]
def b16_24 : AC := .reg b16l24
def b16_25 : AC := .seq b16_24 .ret
def b16_26 : AC := .cond (.t 82) b16_25 .skip
def b16_27 : AC := .seq b16_23 b16_26
def b16l28 : List AOp := [oD 83 (.mv (.t 9)),
oD 84 (.mv (.t 9)),
oD 85 (.nilck (.t 84)),
oD 86 (.faddr 1 (.t 85)),
oD 87 (.load none (.t 86)),
oD 88 (.mv (.t 10)),
oD 89 (.bin .add (.t 88) (.k (.int .i64 1))),
oD 90 (.mv (.t 11)),
oD 91 (.alit [.nili] 1 [(0, (.t 90))]),
oD 92 (.icall 87 [(.t 87), (.t 89), (.t 91)]),
oD 93 (.nilck (.t 83)),
oD 94 (.faddr 1 (.t 93)),
oN (.store 1 (.t 94) (.t 92))]
def b16_28 : AC := .reg b16l28
def b16l29 : List AOp := [oD 95 (.mv (.t 9)),
oD 96 (.nilck (.t 95)),
oD 97 (.faddr 1 (.t 96)),
oD 98 (.load none (.t 97)),
oD 99 (.arr .len [(.t 98)]),
oD 100 (.bin .gtr (.t 99) (.k (.int .i64 8)))]
def b16_29 : AC := .reg b16l29
def b16l30 : List AOp := [oD 101 (.build [(.int .i64 0), (.slc [])] [(0, 1, (.k (.int .i64 (-1))))]),
oD 102 (.box (.t 101)),
oD 12 (.mv (.t 102))]
def b16_30 : AC := .reg b16l30
def b16l31 : List AOp := [oD 104 (.mv (.t 9)),
oD 105 (.mv (.t 12)),
oD 106 (.mv (.t 9)),
oD 107 (.nilck (.t 106)),
oD 108 (.faddr 1 (.t 107)),
oD 109 (.load none (.t 108)),
oD 110 (.icall 88 [(.t 109)]),
oD 103 (.mv (.t 110)),
oD 111 (.ext 0 (.t 103)),
oD 112 (.ext 1 (.t 103)),
oD 113 (.nilck (.t 104)),
oD 114 (.faddr 1 (.t 113)),
oN (.store 1 (.t 114) (.t 111)),
oD 115 (.nilck (.t 105)),
oD 116 (.faddr 1 (.t 115)),
oN (.store 1 (.t 116) (.t 112))]
def b16_31 : AC := .reg b16l31
def b16l32 : List AOp := [oD 117 (.mv (.t 12)),
oD 118 (.mki 138 (.t 117)),
oD 4 (.mv (.t 118))]
def b16_32 : AC := .reg b16l32
def b16_33 : AC := .seq b16_32 .ret
def b16_34 : AC := .seq b16_31 b16_33
def b16_35 : AC := .seq b16_30 b16_34
def b16_36 : AC := .cond (.t 100) b16_35 .skip
def b16_37 : AC := .seq b16_29 b16_36
def b16_38 : AC := .seq b16_28 b16_37
def b16_39 : AC := .seq b16_27 b16_38
def b16_40 : AC := .seq b16_22 b16_39
def b16_41 : AC := .seq b16_21 b16_40
def b16_42 : AC := .seq b16_20 b16_41
def b16_43 : AC := .cond (.t 66) b16_42 .skip
def b16_44 : AC := .seq b16_19 b16_43
def b16_45 : AC := .cond (.t 18) b16_18 b16_44
def b16_46 : AC := .seq b16_3 b16_45
def b16_47 : AC := .block 0 b16_46
def b16_48 : AC := .seq b16_2 b16_47
def b16l49 : List AOp := [oD 4 (.mv (.k .nili))]
def b16_49 : AC := .reg b16l49
def b16_50 : AC := .seq b16_49 .ret
def b16_51 : AC := .seq b16_48 b16_50
def b16_52 : AC := .seq b16_1 b16_51
def b16_53 : AC := .seq b16_0 b16_52
def ac_tree_insert : AC := b16_53
theorem cm86 : compF Tryz.prog [4000083, 1000085, 1000086, 4000073, 1000072, 1000087, 1000088, 7000000, 9000000] (drawR Tryz.prog [4000083, 1000085, 1000086, 4000073, 1000072, 1000087, 1000088, 7000000, 9000000] Tryz.f72.ntmps) [] 2 Tryz.f72 = some (ac_tree_insert, [.t 4]) := by kernel_rfl
def U86 := J oA (J (J (J (J (J (J (J @ac_tree_insert.eq_1 (@mR _ _ b16_0.eq_1)) (@mR _ _ b16_1.eq_1)) (J (@mR _ _ b16_2.eq_1) (@mR _ _ b16_3.eq_1))) (J (J (J (@mR _ _ b16_4.eq_1) (@mD _ _ _ b16_5.eq_1)) (@mD _ _ _ b16_6.eq_1)) (J (@mR _ _ b16_7.eq_1) (@mR _ _ b16_8.eq_1)))) (J (J (J (J (@mR _ _ b16_9.eq_1) (@mR _ _ b16_10.eq_1)) (@mU _ _ b16_11.eq_1)) (J (@mU _ _ b16_12.eq_1) (@mU _ _ b16_13.eq_1))) (J (J (J (@mU _ _ b16_14.eq_1) (@mU _ _ b16_15.eq_1)) (@mU _ _ b16_16.eq_1)) (J (@mU _ _ b16_17.eq_1) (@mU _ _ b16_18.eq_1))))) (J (J (J (J (J (@mR _ _ b16_19.eq_1) (@mR _ _ b16_20.eq_1)) (@mR _ _ b16_21.eq_1)) (J (@mD _ _ _ b16_22.eq_1) (@mR _ _ b16_23.eq_1))) (J (J (J (@mR _ _ b16_24.eq_1) (@mU _ _ b16_25.eq_1)) (@mU _ _ b16_26.eq_1)) (J (@mU _ _ b16_27.eq_1) (@mR _ _ b16_28.eq_1)))) (J (J (J (J (@mR _ _ b16_29.eq_1) (@mR _ _ b16_30.eq_1)) (@mR _ _ b16_31.eq_1)) (J (@mR _ _ b16_32.eq_1) (@mU _ _ b16_33.eq_1))) (J (J (@mU _ _ b16_34.eq_1) (@mU _ _ b16_35.eq_1)) (J (@mU _ _ b16_36.eq_1) (@mU _ _ b16_37.eq_1)))))) (J (J (J (J (J (J (@mU _ _ b16_38.eq_1) (@mU _ _ b16_39.eq_1)) (@mU _ _ b16_40.eq_1)) (J (@mU _ _ b16_41.eq_1) (@mU _ _ b16_42.eq_1))) (J (J (J (@mU _ _ b16_43.eq_1) (@mU _ _ b16_44.eq_1)) (@mU _ _ b16_45.eq_1)) (J (@mU _ _ b16_46.eq_1) (@mU _ _ b16_47.eq_1)))) (J (J (J (J (@mU _ _ b16_48.eq_1) (@mR _ _ b16_49.eq_1)) (@mU _ _ b16_50.eq_1)) (J (@mU _ _ b16_51.eq_1) (@mU _ _ b16_52.eq_1))) (J (J (J (@mU _ _ b16_53.eq_1) @b16l0.eq_1) @b16l1.eq_1) (J @b16l2.eq_1 @b16l3.eq_1)))) (J (J (J (J (J @b16l4.eq_1 @b16l5.eq_1) @b16l6.eq_1) (J @b16l7.eq_1 @b16l8.eq_1)) (J (J (J @b16l9.eq_1 @b16l10.eq_1) @b16l19.eq_1) (J @b16l20.eq_1 @b16l21.eq_1))) (J (J (J (J @b16l22.eq_1 @b16l23.eq_1) @b16l24.eq_1) (J @b16l28.eq_1 @b16l29.eq_1)) (J (J @b16l30.eq_1 @b16l31.eq_1) (J @b16l32.eq_1 @b16l49.eq_1))))))

/- (*scoria/tree.innerNode).under -/
def b17l0 : List AOp := [oD 4 (.mv (.k (.int .i64 0)))]
def b17_0 : AC := .reg b17l0
def b17l1 : List AOp := [oD 6 (.mv (.t 0)),
oD 7 (.nilck (.t 6)),
oD 8 (.faddr 1 (.t 7)),
oD 9 (.load none (.t 8)),
oD 10 (.arr .len [(.t 9)]),
oD 11 (.bin .sub (.t 10) (.k (.int .i64 1))),
oD 5 (.mv (.t 11))]
def b17_1 : AC := .reg b17l1
def b17l2 : List AOp := [oD 12 (.mv (.t 5)),
oD 13 (.bin .gtr (.t 12) (.k (.int .i64 0))),
oD 14 (.mv (.t 13)),
oG 15 (.mv (.t 0)) 14 true,
oG 16 (.nilck (.t 15)) 14 true,
oG 17 (.faddr 1 (.t 16)) 14 true,
oG 18 (.load none (.t 17)) 14 true,
oG 19 (.mv (.t 5)) 14 true,
oG 20 (.arr (.ix 1) [(.t 18), (.t 19)]) 14 true,
oG 21 (.load none (.t 20)) 14 true,
oG 22 (.rcalli "scoria/tree.first" (.t 21) []) 14 true,
oG 23 (.mv (.t 1)) 14 true,
oG 24 (.bin .gtr (.t 22) (.t 23)) 14 true,
oD 25 (.pick (.t 14) (.t 24) (.k (.bool false)))]
def b17_2 : AC := .reg b17l2
def b17_3 : AC := .cond (.t 25) .skip (.exit 0)
def b17_4 : AC := .seq b17_2 b17_3
def b17l5 : List AOp := [oD 26 (.mv (.t 5)),
oD 27 (.bin .sub (.t 26) (.k (.int .i64 1))),
oD 5 (.mv (.t 27))]
def b17_5 : AC := .reg b17l5
def b17_6 : AC := .block 1 b17_5
def b17_7 : AC := .seq b17_4 b17_6
def b17_8 : AC := .loop [0, 1, 5] 1000000000 b17_7
def b17_9 : AC := .block 0 b17_8
def b17l10 : List AOp := [oD 28 (.mv (.t 5)),
oD 4 (.mv (.t 28))]
def b17_10 : AC := .reg b17l10
def b17_11 : AC := .seq b17_10 .ret
def b17_12 : AC := .seq b17_9 b17_11
def b17_13 : AC := .seq b17_1 b17_12
def b17_14 : AC := .seq b17_0 b17_13
def ac_tree_innerNode_under : AC := b17_14
theorem cm84 : compF Tryz.prog [7000000, 9000000] (drawR Tryz.prog [7000000, 9000000] Tryz.f73.ntmps) [([0, 1, 5], 1000000000)] 2 Tryz.f73 = some (ac_tree_innerNode_under, [.t 4]) := by kernel_rfl
def U84 := J oA (J (J (J (J (J @ac_tree_innerNode_under.eq_1 (@mR _ _ b17_0.eq_1)) (@mR _ _ b17_1.eq_1)) (J (J (@mR _ _ b17_2.eq_1) (@mU _ _ b17_3.eq_1)) (@mU _ _ b17_4.eq_1))) (J (J (J (@mR _ _ b17_5.eq_1) (@mU _ _ b17_6.eq_1)) (@mU _ _ b17_7.eq_1)) (J (@mU _ _ b17_8.eq_1) (@mU _ _ b17_9.eq_1)))) (J (J (J (J (@mR _ _ b17_10.eq_1) (@mU _ _ b17_11.eq_1)) (@mU _ _ b17_12.eq_1)) (J (@mU _ _ b17_13.eq_1) (@mU _ _ b17_14.eq_1))) (J (J (J @b17l0.eq_1 @b17l1.eq_1) @b17l2.eq_1) (J @b17l5.eq_1 @b17l10.eq_1))))

/- (*scoria/tree.innerNode).mend -/
def b18l0 : List AOp := [oD 5 (.mv (.t 0)),
oD 6 (.nilck (.t 5)),
oD 7 (.faddr 1 (.t 6)),
oD 8 (.load none (.t 7)),
oD 9 (.arr .len [(.t 8)]),
oD 10 (.bin .sub (.t 9) (.k (.int .i64 1))),
oD 4 (.mv (.t 10))]
def b18_0 : AC := .reg b18l0
def b18l1 : List AOp := [oD 12 (.mv (.t 1)),
oD 13 (.bin .gtr (.t 12) (.k (.int .i64 0))),
oD 14 (.mv (.t 13)),
oG 15 (.mv (.t 0)) 14 true,
oG 16 (.nilck (.t 15)) 14 true,
oG 17 (.faddr 1 (.t 16)) 14 true,
oG 18 (.load none (.t 17)) 14 true,
oG 19 (.mv (.t 1)) 14 true,
oG 20 (.bin .sub (.t 19) (.k (.int .i64 1))) 14 true,
oG 21 (.arr (.ix 1) [(.t 18), (.t 20)]) 14 true,
oG 22 (.load none (.t 21)) 14 true,
oG 23 (.rcalli "scoria/tree.size" (.t 22) []) 14 true,
oG 24 (.bin .gtr (.t 23) (.k (.int .i64 4))) 14 true,
oD 25 (.pick (.t 14) (.t 24) (.k (.bool false))),
oD 11 (.mv (.t 25))]
def b18_1 : AC := .reg b18l1
def b18l2 : List AOp := [oD 26 (.mv (.t 0)),
oD 27 (.nilck (.t 26)),
oD 28 (.faddr 1 (.t 27)),
oD 29 (.load none (.t 28)),
oD 30 (.mv (.t 1)),
oD 31 (.bin .sub (.t 30) (.k (.int .i64 1))),
oD 32 (.arr (.ix 1) [(.t 29), (.t 31)]),
oD 33 (.load none (.t 32)),
oD 34 (.mv (.t 0)),
oD 35 (.nilck (.t 34)),
oD 36 (.faddr 1 (.t 35)),
oD 37 (.load none (.t 36)),
oD 38 (.mv (.t 1)),
oD 39 (.arr (.ix 1) [(.t 37), (.t 38)]),
oD 40 (.load none (.t 39)),
oD 41 (.mv (.t 0)),
oD 42 (.nilck (.t 41)),
oD 43 (.faddr 1 (.t 42)),
oD 44 (.load none (.t 43)),
oD 45 (.mv (.t 1)),
oD 46 (.bin .sub (.t 45) (.k (.int .i64 1))),
oD 47 (.arr (.ix 1) [(.t 44), (.t 46)]),
oD 48 (.load none (.t 47)),
oD 49 (.rcalli "scoria/tree.size" (.t 48) []),
oD 50 (.bin .sub (.t 49) (.k (.int .i64 1))),
oD 51 (.icall 91 [(.t 33), (.t 40), (.t 50)])]
def b18_2 : AC := .dreg 0 b18l2
def b18l3 : List AOp := [oD 53 (.mv (.t 1)),
oD 54 (.mv (.t 4)),
oD 55 (.bin .lss (.t 53) (.t 54)),
oD 56 (.mv (.t 55)),
oG 57 (.mv (.t 0)) 56 true,
oG 58 (.nilck (.t 57)) 56 true,
oG 59 (.faddr 1 (.t 58)) 56 true,
oG 60 (.load none (.t 59)) 56 true,
oG 61 (.mv (.t 1)) 56 true,
oG 62 (.bin .add (.t 61) (.k (.int .i64 1))) 56 true,
oG 63 (.arr (.ix 1) [(.t 60), (.t 62)]) 56 true,
oG 64 (.load none (.t 63)) 56 true,
oG 65 (.rcalli "scoria/tree.size" (.t 64) []) 56 true,
oG 66 (.bin .gtr (.t 65) (.k (.int .i64 4))) 56 true,
oD 67 (.pick (.t 56) (.t 66) (.k (.bool false))),
oD 52 (.mv (.t 67))]
def b18_3 : AC := .reg b18l3
def b18l4 : List AOp := [oD 68 (.mv (.t 0)),
oD 69 (.nilck (.t 68)),
oD 70 (.faddr 1 (.t 69)),
oD 71 (.load none (.t 70)),
oD 72 (.mv (.t 1)),
oD 73 (.arr (.ix 1) [(.t 71), (.t 72)]),
oD 74 (.load none (.t 73)),
oD 75 (.mv (.t 0)),
oD 76 (.nilck (.t 75)),
oD 77 (.faddr 1 (.t 76)),
oD 78 (.load none (.t 77)),
oD 79 (.mv (.t 1)),
oD 80 (.bin .add (.t 79) (.k (.int .i64 1))),
oD 81 (.arr (.ix 1) [(.t 78), (.t 80)]),
oD 82 (.load none (.t 81)),
oD 83 (.mv (.t 0)),
oD 84 (.nilck (.t 83)),
oD 85 (.faddr 1 (.t 84)),
oD 86 (.load none (.t 85)),
oD 87 (.mv (.t 1)),
oD 88 (.arr (.ix 1) [(.t 86), (.t 87)]),
oD 89 (.load none (.t 88)),
oD 90 (.rcalli "scoria/tree.size" (.t 89) []),
oD 91 (.bin .add (.t 90) (.k (.int .i64 1))),
oD 92 (.icall 91 [(.t 74), (.t 82), (.t 91)])]
def b18_4 : AC := .dreg 0 b18l4
def b18l5 : List AOp := [oD 94 (.mv (.t 1)),
oD 95 (.bin .gtr (.t 94) (.k (.int .i64 0))),
oD 93 (.mv (.t 95))]
def b18_5 : AC := .reg b18l5
def b18l6 : List AOp := [oD 96 (.mv (.t 0)),
oD 97 (.mv (.t 1)),
oD 98 (.bin .sub (.t 97) (.k (.int .i64 1))),
oD 99 (.icall 92 [(.t 96), (.t 98)])]
def b18_6 : AC := .reg b18l6
def b18l7 : List AOp := [oD 101 (.mv (.t 1)),
oD 102 (.mv (.t 4)),
oD 103 (.bin .lss (.t 101) (.t 102)),
oD 100 (.mv (.t 103))]
def b18_7 : AC := .reg b18l7
def b18l8 : List AOp := [oD 104 (.mv (.t 0)),
oD 105 (.mv (.t 1)),
oD 106 (.icall 92 [(.t 104), (.t 105)])]
def b18_8 : AC := .reg b18l8
def b18_9 : AC := .cond (.t 100) b18_8 .skip
def b18_10 : AC := .seq b18_7 b18_9
def b18_11 : AC := .cond (.t 93) b18_6 b18_10
def b18_12 : AC := .seq b18_5 b18_11
def b18_13 : AC := .cond (.t 52) b18_4 b18_12
def b18_14 : AC := .seq b18_3 b18_13
def b18_15 : AC := .cond (.t 11) b18_2 b18_14
def b18_16 : AC := .seq b18_1 b18_15
def b18_17 : AC := .block 0 b18_16
def b18_18 : AC := .seq b18_0 b18_17
def ac_tree_innerNode_mend : AC := b18_18
theorem cm81 : compF Tryz.prog [1000091, 1000092, 7000000, 9000000] (drawR Tryz.prog [1000091, 1000092, 7000000, 9000000] Tryz.f82.ntmps) [] 2 Tryz.f82 = some (ac_tree_innerNode_mend, []) := by kernel_rfl
def U81 := J oA (J (J (J (J (J @ac_tree_innerNode_mend.eq_1 (@mR _ _ b18_0.eq_1)) (J (@mR _ _ b18_1.eq_1) (@mD _ _ _ b18_2.eq_1))) (J (J (@mR _ _ b18_3.eq_1) (@mD _ _ _ b18_4.eq_1)) (J (@mR _ _ b18_5.eq_1) (@mR _ _ b18_6.eq_1)))) (J (J (J (@mR _ _ b18_7.eq_1) (@mR _ _ b18_8.eq_1)) (J (@mU _ _ b18_9.eq_1) (@mU _ _ b18_10.eq_1))) (J (J (@mU _ _ b18_11.eq_1) (@mU _ _ b18_12.eq_1)) (@mU _ _ b18_13.eq_1)))) (J (J (J (J (@mU _ _ b18_14.eq_1) (@mU _ _ b18_15.eq_1)) (J (@mU _ _ b18_16.eq_1) (@mU _ _ b18_17.eq_1))) (J (J (@mU _ _ b18_18.eq_1) @b18l0.eq_1) @b18l1.eq_1)) (J (J (J @b18l2.eq_1 @b18l3.eq_1) (J @b18l4.eq_1 @b18l5.eq_1)) (J (J @b18l6.eq_1 @b18l7.eq_1) @b18l8.eq_1))))

/- scoria/tree.split[scoria/api.Ext] -/
def b19l0 : List AOp := [oD 2 (.mv (.k (.slc []))),
oD 3 (.mv (.k (.slc [])))]
def b19_0 : AC := .reg b19l0
def b19l1 : List AOp := [oD 5 (.mv (.t 0)),
oD 6 (.arr .len [(.t 5)]),
oD 7 (.bin .quo (.t 6) (.k (.int .i64 2))),
oD 4 (.mv (.t 7))]
def b19_1 : AC := .reg b19l1
def b19l2 : List AOp := [oD 8 (.mv (.t 0)),
oD 9 (.mv (.t 4)),
oD 10 (.mv (.t 4)),
oD 11 (.arr (.sl 4 false true true) [(.t 8), (.k .bot), (.t 9), (.t 10)]),
oD 12 (.mv (.t 0)),
oD 13 (.mv (.t 4)),
oD 14 (.arr (.sl 4 true false false) [(.t 12), (.t 13), (.k .bot), (.k .bot)]),
oD 15 (.icall 95 [(.t 14)]),
oD 2 (.mv (.t 11)),
oD 3 (.mv (.t 15))]
def b19_2 : AC := .dreg 0 b19l2
def b19_3 : AC := .seq b19_2 .ret
def b19_4 : AC := .seq b19_1 b19_3
def b19_5 : AC := .seq b19_0 b19_4
def ac_tree_split_api_Ext : AC := b19_5
theorem cm94 : compF Tryz.prog [1000095, 7000000, 9000000] (drawR Tryz.prog [1000095, 7000000, 9000000] Tryz.f86.ntmps) [] 1 Tryz.f86 = some (ac_tree_split_api_Ext, [.t 2, .t 3]) := by kernel_rfl
def U94 := J oA (J (J (J (J @ac_tree_split_api_Ext.eq_1 (@mR _ _ b19_0.eq_1)) (@mR _ _ b19_1.eq_1)) (J (@mD _ _ _ b19_2.eq_1) (@mU _ _ b19_3.eq_1))) (J (J (J (@mU _ _ b19_4.eq_1) (@mU _ _ b19_5.eq_1)) @b19l0.eq_1) (J @b19l1.eq_1 @b19l2.eq_1)))

/- scoria/tree.split[scoria/tree.node] -/
def b20l0 : List AOp := [oD 2 (.mv (.k (.slc []))),
oD 3 (.mv (.k (.slc [])))]
def b20_0 : AC := .reg b20l0
def b20l1 : List AOp := [oD 5 (.mv (.t 0)),
oD 6 (.arr .len [(.t 5)]),
oD 7 (.bin .quo (.t 6) (.k (.int .i64 2))),
oD 4 (.mv (.t 7))]
def b20_1 : AC := .reg b20l1
def b20l2 : List AOp := [oD 8 (.mv (.t 0)),
oD 9 (.mv (.t 4)),
oD 10 (.mv (.t 4)),
oD 11 (.arr (.sl 1 false true true) [(.t 8), (.k .bot), (.t 9), (.t 10)]),
oD 12 (.mv (.t 0)),
oD 13 (.mv (.t 4)),
oD 14 (.arr (.sl 1 true false false) [(.t 12), (.t 13), (.k .bot), (.k .bot)]),
oD 15 (.icall 98 [(.t 14)]),
oD 2 (.mv (.t 11)),
oD 3 (.mv (.t 15))]
def b20_2 : AC := .dreg 0 b20l2
def b20_3 : AC := .seq b20_2 .ret
def b20_4 : AC := .seq b20_1 b20_3
def b20_5 : AC := .seq b20_0 b20_4
def ac_tree_split_tree_node : AC := b20_5
theorem cm95 : compF Tryz.prog [1000098, 7000000, 9000000] (drawR Tryz.prog [1000098, 7000000, 9000000] Tryz.f88.ntmps) [] 1 Tryz.f88 = some (ac_tree_split_tree_node, [.t 2, .t 3]) := by kernel_rfl
def U95 := J oA (J (J (J (J @ac_tree_split_tree_node.eq_1 (@mR _ _ b20_0.eq_1)) (@mR _ _ b20_1.eq_1)) (J (@mD _ _ _ b20_2.eq_1) (@mU _ _ b20_3.eq_1))) (J (J (J (@mU _ _ b20_4.eq_1) (@mU _ _ b20_5.eq_1)) @b20l0.eq_1) (J @b20l1.eq_1 @b20l2.eq_1)))

/- scoria/tree.shift -/
def b21l0 : List AOp := [oD 12 (.mv (.t 0)),
oD 13 (.icalli "scoria/tree.where" (.t 12) []),
oD 14 (.mv (.t 1)),
oD 15 (.icalli "scoria/tree.where" (.t 14) []),
oD 16 (.nilck (.t 13)),
oN (.store 1 (.t 16) (.k (.int .i64 (-1)))),
oD 17 (.nilck (.t 15)),
oN (.store 1 (.t 17) (.k (.int .i64 (-1))))]
def b21_0 : AC := .reg b21l0
def b21l1 : List AOp := [oD 18 (.mv (.t 0))]
def b21_1 : AC := .reg b21l1
def b21l2 : List AOp := [oD 19 (.tas 135 (.t 18)),
oD 20 (.ext 1 (.t 19)),
oD 21 (.ext 0 (.t 19))]
def b21_2 : AC := .reg b21l2
def b21l3 : List AOp := [oD 6 (.mv (.t 21))]
def b21_3 : AC := .reg b21l3
def b21l4 : List AOp := [oD 23 (.mv (.t 1)),
oD 24 (.tas 135 (.t 23)),
oD 22 (.mv (.t 24)),
oD 25 (.ext 0 (.t 22)),
oD 26 (.ext 1 (.t 22)),
oD 7 (.mv (.t 25)),
oD 8 (.mv (.t 26))]
def b21_4 : AC := .reg b21l4
def b21l5 : List AOp := [oD 27 (.mv (.t 8))]
def b21_5 : AC := .reg b21l5
def b21l6 : List AOp := [oD 29 (.mv (.t 6)),
oD 30 (.mv (.t 7)),
oD 31 (.mv (.t 6)),
oD 32 (.nilck (.t 31)),
oD 33 (.faddr 1 (.t 32)),
oD 34 (.load none (.t 33)),
oD 35 (.mv (.t 7)),
oD 36 (.nilck (.t 35)),
oD 37 (.faddr 1 (.t 36)),
oD 38 (.load none (.t 37)),
oD 39 (.mv (.t 2)),
oD 40 (.icall 99 [(.t 34), (.t 38), (.t 39)]),
oD 28 (.mv (.t 40)),
oD 41 (.ext 0 (.t 28)),
oD 42 (.ext 1 (.t 28)),
oD 43 (.nilck (.t 29)),
oD 44 (.faddr 1 (.t 43)),
oN (.store 1 (.t 44) (.t 41)),
oD 45 (.nilck (.t 30)),
oD 46 (.faddr 1 (.t 45)),
oN (.store 1 (.t 46) (.t 42))]
def b21_6 : AC := .dreg 0 b21l6
def b21_7 : AC := .cond (.t 27) b21_6 .skip
def b21_8 : AC := .seq b21_5 b21_7
def b21_9 : AC := .seq b21_4 b21_8
def b21_10 : AC := .seq b21_3 b21_9
def b21l11 : List AOp := [oD 47 (.tas 138 (.t 18)),
oD 48 (.ext 1 (.t 47)),
oD 49 (.ext 0 (.t 47))]
def b21_11 : AC := .reg b21l11
def b21l12 : List AOp := [oD 9 (.mv (.t 49))]
def b21_12 : AC := .reg b21l12
def b21l13 : List AOp := [oD 51 (.mv (.t 1)),
oD 52 (.tas 138 (.t 51)),
oD 50 (.mv (.t 52)),
oD 53 (.ext 0 (.t 50)),
oD 54 (.ext 1 (.t 50)),
oD 10 (.mv (.t 53)),
oD 11 (.mv (.t 54))]
def b21_13 : AC := .reg b21l13
def b21l14 : List AOp := [oD 55 (.mv (.t 11))]
def b21_14 : AC := .reg b21l14
def b21l15 : List AOp := [oD 57 (.mv (.t 9)),
oD 58 (.mv (.t 10)),
oD 59 (.mv (.t 9)),
oD 60 (.nilck (.t 59)),
oD 61 (.faddr 1 (.t 60)),
oD 62 (.load none (.t 61)),
oD 63 (.mv (.t 10)),
oD 64 (.nilck (.t 63)),
oD 65 (.faddr 1 (.t 64)),
oD 66 (.load none (.t 65)),
oD 67 (.mv (.t 2)),
oD 68 (.icall 100 [(.t 62), (.t 66), (.t 67)]),
oD 56 (.mv (.t 68)),
oD 69 (.ext 0 (.t 56)),
oD 70 (.ext 1 (.t 56)),
oD 71 (.nilck (.t 57)),
oD 72 (.faddr 1 (.t 71)),
oN (.store 1 (.t 72) (.t 69)),
oD 73 (.nilck (.t 58)),
oD 74 (.faddr 1 (.t 73)),
oN (.store 1 (.t 74) (.t 70))]
def b21_15 : AC := .dreg 0 b21l15
def b21_16 : AC := .cond (.t 55) b21_15 .skip
def b21_17 : AC := .seq b21_14 b21_16
def b21_18 : AC := .seq b21_13 b21_17
def b21_19 : AC := .seq b21_12 b21_18
def b21_20 : AC := .cond (.t 48) b21_19 .skip
def b21_21 : AC := .seq b21_11 b21_20
def b21_22 : AC := .cond (.t 20) b21_10 b21_21
def b21_23 : AC := .seq b21_2 b21_22
def b21_24 : AC := .block 0 b21_23
def b21_25 : AC := .seq b21_1 b21_24
def b21_26 : AC := .seq b21_0 b21_25
def ac_tree_shift : AC := b21_26
theorem cm93 : compF Tryz.prog [1000099, 1000100, 7000000, 9000000] (drawR Tryz.prog [1000099, 1000100, 7000000, 9000000] Tryz.f91.ntmps) [] 3 Tryz.f91 = some (ac_tree_shift, []) := by kernel_rfl
def U93 := J oA (J (J (J (J (J (J @ac_tree_shift.eq_1 (@mR _ _ b21_0.eq_1)) (@mR _ _ b21_1.eq_1)) (J (@mR _ _ b21_2.eq_1) (@mR _ _ b21_3.eq_1))) (J (J (J (@mR _ _ b21_4.eq_1) (@mR _ _ b21_5.eq_1)) (@mD _ _ _ b21_6.eq_1)) (J (@mU _ _ b21_7.eq_1) (@mU _ _ b21_8.eq_1)))) (J (J (J (J (@mU _ _ b21_9.eq_1) (@mU _ _ b21_10.eq_1)) (@mR _ _ b21_11.eq_1)) (J (@mR _ _ b21_12.eq_1) (@mR _ _ b21_13.eq_1))) (J (J (J (@mR _ _ b21_14.eq_1) (@mD _ _ _ b21_15.eq_1)) (@mU _ _ b21_16.eq_1)) (J (@mU _ _ b21_17.eq_1) (@mU _ _ b21_18.eq_1))))) (J (J (J (J (J (@mU _ _ b21_19.eq_1) (@mU _ _ b21_20.eq_1)) (@mU _ _ b21_21.eq_1)) (J (@mU _ _ b21_22.eq_1) (@mU _ _ b21_23.eq_1))) (J (J (J (@mU _ _ b21_24.eq_1) (@mU _ _ b21_25.eq_1)) (@mU _ _ b21_26.eq_1)) (J @b21l0.eq_1 @b21l1.eq_1))) (J (J (J (J @b21l2.eq_1 @b21l3.eq_1) @b21l4.eq_1) (J @b21l5.eq_1 @b21l6.eq_1)) (J (J (J @b21l11.eq_1 @b21l12.eq_1) @b21l13.eq_1) (J @b21l14.eq_1 @b21l15.eq_1)))))

/- (*scoria/tree.innerNode).merge -/
def b22l0 : List AOp := [oD 4 (.mv (.t 0)),
oD 5 (.nilck (.t 4)),
oD 6 (.faddr 1 (.t 5)),
oD 7 (.load none (.t 6)),
oD 8 (.mv (.t 1)),
oD 9 (.arr (.ix 1) [(.t 7), (.t 8)]),
oD 10 (.load none (.t 9)),
oD 11 (.mv (.t 0)),
oD 12 (.nilck (.t 11)),
oD 13 (.faddr 1 (.t 12)),
oD 14 (.load none (.t 13)),
oD 15 (.mv (.t 1)),
oD 16 (.bin .add (.t 15) (.k (.int .i64 1))),
oD 17 (.arr (.ix 1) [(.t 14), (.t 16)]),
oD 18 (.load none (.t 17)),
oD 19 (.mv (.t 0)),
oD 20 (.nilck (.t 19)),
oD 21 (.faddr 1 (.t 20)),
oD 22 (.load none (.t 21)),
oD 23 (.mv (.t 1)),
oD 24 (.arr (.ix 1) [(.t 22), (.t 23)]),
oD 25 (.load none (.t 24)),
oD 26 (.rcalli "scoria/tree.size" (.t 25) []),
oD 27 (.mv (.t 0)),
oD 28 (.nilck (.t 27)),
oD 29 (.faddr 1 (.t 28)),
oD 30 (.load none (.t 29)),
oD 31 (.mv (.t 1)),
oD 32 (.bin .add (.t 31) (.k (.int .i64 1))),
oD 33 (.arr (.ix 1) [(.t 30), (.t 32)]),
oD 34 (.load none (.t 33)),
oD 35 (.rcalli "scoria/tree.size" (.t 34) []),
oD 36 (.bin .add (.t 26) (.t 35)),
oD 37 (.icall 91 [(.t 10), (.t 18), (.t 36)])]
def b22_0 : AC := .dreg 0 b22l0
def b22l1 : List AOp := [oD 38 (.mv (.t 0)),
oD 39 (.mv (.t 0)),
oD 40 (.nilck (.t 39)),
oD 41 (.faddr 1 (.t 40)),
oD 42 (.load none (.t 41)),
oD 43 (.mv (.t 1)),
oD 44 (.bin .add (.t 43) (.k (.int .i64 1))),
oD 45 (.mv (.t 1)),
oD 46 (.bin .add (.t 45) (.k (.int .i64 2))),
oD 47 (.icall 101 [(.t 42), (.t 44), (.t 46)]),
oD 48 (.nilck (.t 38)),
oD 49 (.faddr 1 (.t 48)),
oN (.store 1 (.t 49) (.t 47))]
def b22_1 : AC := .reg b22l1
def b22_2 : AC := .seq b22_0 b22_1
def ac_tree_innerNode_merge : AC := b22_2
theorem cm82 : compF Tryz.prog [1000091, 1000101, 7000000, 9000000] (drawR Tryz.prog [1000091, 1000101, 7000000, 9000000] Tryz.f92.ntmps) [] 2 Tryz.f92 = some (ac_tree_innerNode_merge, []) := by kernel_rfl
def U82 := J oA (J (J (J @ac_tree_innerNode_merge.eq_1 (@mD _ _ _ b22_0.eq_1)) (@mR _ _ b22_1.eq_1)) (J (J (@mU _ _ b22_2.eq_1) @b22l0.eq_1) @b22l1.eq_1))

/- scoria/tree.cut[scoria/api.Ext] -/
def b23l0 : List AOp := [oD 6 (.mv (.k (.slc []))),
oD 7 (.mv (.k (.slc [])))]
def b23_0 : AC := .reg b23l0
def b23l1 : List AOp := [oD 9 (.mv (.t 0)),
oD 10 (.mv (.t 1)),
oD 11 (.alit [(.slc [])] 2 [(0, (.t 9)), (1, (.t 10))]),
oD 12 (.icall 31 [(.t 11)]),
oD 8 (.mv (.t 12))]
def b23_1 : AC := .reg b23l1
def b23l2 : List AOp := [oD 13 (.mv (.t 8)),
oD 14 (.mv (.t 2)),
oD 15 (.arr (.sl 4 false true false) [(.t 13), (.k .bot), (.t 14), (.k .bot)]),
oD 16 (.icall 95 [(.t 15)]),
oD 17 (.mv (.t 8)),
oD 18 (.mv (.t 2)),
oD 19 (.arr (.sl 4 true false false) [(.t 17), (.t 18), (.k .bot), (.k .bot)]),
oD 20 (.icall 95 [(.t 19)]),
oD 6 (.mv (.t 16)),
oD 7 (.mv (.t 20))]
def b23_2 : AC := .dreg 0 b23l2
def b23_3 : AC := .seq b23_2 .ret
def b23_4 : AC := .seq b23_1 b23_3
def b23_5 : AC := .seq b23_0 b23_4
def ac_tree_cut_api_Ext : AC := b23_5
theorem cm77 : compF Tryz.prog [1000031, 1000095, 7000000, 9000000] (drawR Tryz.prog [1000031, 1000095, 7000000, 9000000] Tryz.f99.ntmps) [] 3 Tryz.f99 = some (ac_tree_cut_api_Ext, [.t 6, .t 7]) := by kernel_rfl
def U77 := J oA (J (J (J (J @ac_tree_cut_api_Ext.eq_1 (@mR _ _ b23_0.eq_1)) (@mR _ _ b23_1.eq_1)) (J (@mD _ _ _ b23_2.eq_1) (@mU _ _ b23_3.eq_1))) (J (J (J (@mU _ _ b23_4.eq_1) (@mU _ _ b23_5.eq_1)) @b23l0.eq_1) (J @b23l1.eq_1 @b23l2.eq_1)))

/- scoria/tree.cut[scoria/tree.node] -/
def b24l0 : List AOp := [oD 6 (.mv (.k (.slc []))),
oD 7 (.mv (.k (.slc [])))]
def b24_0 : AC := .reg b24l0
def b24l1 : List AOp := [oD 9 (.mv (.t 0)),
oD 10 (.mv (.t 1)),
oD 11 (.alit [(.slc [])] 2 [(0, (.t 9)), (1, (.t 10))]),
oD 12 (.icall 104 [(.t 11)]),
oD 8 (.mv (.t 12))]
def b24_1 : AC := .reg b24l1
def b24l2 : List AOp := [oD 13 (.mv (.t 8)),
oD 14 (.mv (.t 2)),
oD 15 (.arr (.sl 1 false true false) [(.t 13), (.k .bot), (.t 14), (.k .bot)]),
oD 16 (.icall 98 [(.t 15)]),
oD 17 (.mv (.t 8)),
oD 18 (.mv (.t 2)),
oD 19 (.arr (.sl 1 true false false) [(.t 17), (.t 18), (.k .bot), (.k .bot)]),
oD 20 (.icall 98 [(.t 19)]),
oD 6 (.mv (.t 16)),
oD 7 (.mv (.t 20))]
def b24_2 : AC := .dreg 0 b24l2
def b24_3 : AC := .seq b24_2 .ret
def b24_4 : AC := .seq b24_1 b24_3
def b24_5 : AC := .seq b24_0 b24_4
def ac_tree_cut_tree_node : AC := b24_5
theorem cm78 : compF Tryz.prog [1000104, 1000098, 7000000, 9000000] (drawR Tryz.prog [1000104, 1000098, 7000000, 9000000] Tryz.f100.ntmps) [] 3 Tryz.f100 = some (ac_tree_cut_tree_node, [.t 6, .t 7]) := by kernel_rfl
def U78 := J oA (J (J (J (J @ac_tree_cut_tree_node.eq_1 (@mR _ _ b24_0.eq_1)) (@mR _ _ b24_1.eq_1)) (J (@mD _ _ _ b24_2.eq_1) (@mU _ _ b24_3.eq_1))) (J (J (J (@mU _ _ b24_4.eq_1) (@mU _ _ b24_5.eq_1)) @b24l0.eq_1) (J @b24l1.eq_1 @b24l2.eq_1)))

/- (*scoria/tree.leafNode).first -/
def b25l0 : List AOp := [oD 2 (.mv (.k (.int .i64 0)))]
def b25_0 : AC := .reg b25l0
def b25l1 : List AOp := [oD 3 (.mv (.t 0)),
oD 4 (.nilck (.t 3)),
oD 5 (.faddr 1 (.t 4)),
oD 6 (.load none (.t 5)),
oD 7 (.arr (.ix 4) [(.t 6), (.k (.int .i64 0))]),
oD 8 (.faddr 0 (.t 7)),
oD 9 (.load none (.t 8)),
oD 2 (.mv (.t 9))]
def b25_1 : AC := .reg b25l1
def b25_2 : AC := .seq b25_1 .ret
def b25_3 : AC := .seq b25_0 b25_2
def ac_tree_leafNode_first : AC := b25_3
theorem cm88 : compF Tryz.prog [7000000, 9000000] (drawR Tryz.prog [7000000, 9000000] Tryz.f127.ntmps) [] 1 Tryz.f127 = some (ac_tree_leafNode_first, [.t 2]) := by kernel_rfl
def U88 := J oA (J (J (J @ac_tree_leafNode_first.eq_1 (@mR _ _ b25_0.eq_1)) (J (@mR _ _ b25_1.eq_1) (@mU _ _ b25_2.eq_1))) (J (J (@mU _ _ b25_3.eq_1) @b25l0.eq_1) @b25l1.eq_1))

/- (*scoria/tree.leafNode).size -/
def b26l0 : List AOp := [oD 2 (.mv (.k (.int .i64 0)))]
def b26_0 : AC := .reg b26l0
def b26l1 : List AOp := [oD 3 (.mv (.t 0)),
oD 4 (.nilck (.t 3)),
oD 5 (.faddr 1 (.t 4)),
oD 6 (.load none (.t 5)),
oD 7 (.arr .len [(.t 6)]),
oD 2 (.mv (.t 7))]
def b26_1 : AC := .reg b26l1
def b26_2 : AC := .seq b26_1 .ret
def b26_3 : AC := .seq b26_0 b26_2
def ac_tree_leafNode_size : AC := b26_3
theorem cm89 : compF Tryz.prog [7000000, 9000000] (drawR Tryz.prog [7000000, 9000000] Tryz.f128.ntmps) [] 1 Tryz.f128 = some (ac_tree_leafNode_size, [.t 2]) := by kernel_rfl
def U89 := J oA (J (J (J @ac_tree_leafNode_size.eq_1 (@mR _ _ b26_0.eq_1)) (J (@mR _ _ b26_1.eq_1) (@mU _ _ b26_2.eq_1))) (J (J (@mU _ _ b26_3.eq_1) @b26l0.eq_1) @b26l1.eq_1))

/- (*scoria/tree.leafNode).where -/
def b27l0 : List AOp := [oD 2 (.mv (.k .nilp))]
def b27_0 : AC := .reg b27l0
def b27l1 : List AOp := [oD 3 (.mv (.t 0)),
oD 4 (.nilck (.t 3)),
oD 5 (.faddr 0 (.t 4)),
oD 2 (.mv (.t 5))]
def b27_1 : AC := .reg b27l1
def b27_2 : AC := .seq b27_1 .ret
def b27_3 : AC := .seq b27_0 b27_2
def ac_tree_leafNode_where : AC := b27_3
theorem cm90 : compF Tryz.prog [7000000, 9000000] (drawR Tryz.prog [7000000, 9000000] Tryz.f129.ntmps) [] 1 Tryz.f129 = some (ac_tree_leafNode_where, [.t 2]) := by kernel_rfl
def U90 := J oA (J (J (J @ac_tree_leafNode_where.eq_1 (@mR _ _ b27_0.eq_1)) (J (@mR _ _ b27_1.eq_1) (@mU _ _ b27_2.eq_1))) (J (J (@mU _ _ b27_3.eq_1) @b27l0.eq_1) @b27l1.eq_1))

/- (*scoria/tree.innerNode).first -/
def b28l0 : List AOp := [oD 2 (.mv (.k (.int .i64 0)))]
def b28_0 : AC := .reg b28l0
def b28l1 : List AOp := [oD 3 (.mv (.t 0)),
oD 4 (.nilck (.t 3)),
oD 5 (.faddr 1 (.t 4)),
oD 6 (.load none (.t 5)),
oD 7 (.arr (.ix 1) [(.t 6), (.k (.int .i64 0))]),
oD 8 (.load none (.t 7)),
oD 9 (.rcalli "scoria/tree.first" (.t 8) []),
oD 2 (.mv (.t 9))]
def b28_1 : AC := .reg b28l1
def b28_2 : AC := .seq b28_1 .ret
def b28_3 : AC := .seq b28_0 b28_2
def ac_tree_innerNode_first : AC := b28_3
theorem cm80 : compF Tryz.prog [7000000, 9000000] (drawR Tryz.prog [7000000, 9000000] Tryz.f130.ntmps) [] 1 Tryz.f130 = some (ac_tree_innerNode_first, [.t 2]) := by kernel_rfl
def U80 := J oA (J (J (J @ac_tree_innerNode_first.eq_1 (@mR _ _ b28_0.eq_1)) (J (@mR _ _ b28_1.eq_1) (@mU _ _ b28_2.eq_1))) (J (J (@mU _ _ b28_3.eq_1) @b28l0.eq_1) @b28l1.eq_1))

/- (*scoria/tree.innerNode).size -/
def b29l0 : List AOp := [oD 2 (.mv (.k (.int .i64 0)))]
def b29_0 : AC := .reg b29l0
def b29l1 : List AOp := [oD 3 (.mv (.t 0)),
oD 4 (.nilck (.t 3)),
oD 5 (.faddr 1 (.t 4)),
oD 6 (.load none (.t 5)),
oD 7 (.arr .len [(.t 6)]),
oD 2 (.mv (.t 7))]
def b29_1 : AC := .reg b29l1
def b29_2 : AC := .seq b29_1 .ret
def b29_3 : AC := .seq b29_0 b29_2
def ac_tree_innerNode_size : AC := b29_3
theorem cm83 : compF Tryz.prog [7000000, 9000000] (drawR Tryz.prog [7000000, 9000000] Tryz.f131.ntmps) [] 1 Tryz.f131 = some (ac_tree_innerNode_size, [.t 2]) := by kernel_rfl
def U83 := J oA (J (J (J @ac_tree_innerNode_size.eq_1 (@mR _ _ b29_0.eq_1)) (J (@mR _ _ b29_1.eq_1) (@mU _ _ b29_2.eq_1))) (J (J (@mU _ _ b29_3.eq_1) @b29l0.eq_1) @b29l1.eq_1))

/- (*scoria/tree.innerNode).where -/
def b30l0 : List AOp := [oD 2 (.mv (.k .nilp))]
def b30_0 : AC := .reg b30l0
def b30l1 : List AOp := [oD 3 (.mv (.t 0)),
oD 4 (.nilck (.t 3)),
oD 5 (.faddr 0 (.t 4)),
oD 2 (.mv (.t 5))]
def b30_1 : AC := .reg b30l1
def b30_2 : AC := .seq b30_1 .ret
def b30_3 : AC := .seq b30_0 b30_2
def ac_tree_innerNode_where : AC := b30_3
theorem cm85 : compF Tryz.prog [7000000, 9000000] (drawR Tryz.prog [7000000, 9000000] Tryz.f132.ntmps) [] 1 Tryz.f132 = some (ac_tree_innerNode_where, [.t 2]) := by kernel_rfl
def U85 := J oA (J (J (J @ac_tree_innerNode_where.eq_1 (@mR _ _ b30_0.eq_1)) (J (@mR _ _ b30_1.eq_1) (@mU _ _ b30_2.eq_1))) (J (J (@mU _ _ b30_3.eq_1) @b30l0.eq_1) @b30l1.eq_1))

end Go.Proofs.YtdgpiobmncohjaaGreat.Aw
