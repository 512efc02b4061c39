/-
  The functions of the seat, translated to abstract code. Written by a program (wip/Gen2.lean).
-/
import Derived.Test.YtdgpiobmncohjaaGreatKdb
import Derived.Test.YtdgpiobmncohjaaGreatProg
set_option maxRecDepth 100000
set_option linter.all false
namespace Go.Proofs.YtdgpiobmncohjaaGreat.Aw
open Go.RowKit
/- scoria/ext.Cut -/
def c0l0 : List AOp := [oD 6 (.mv (.k (.slc []))),
oD 7 (.mv (.k (.int .i64 0)))]
def c0_0 : AC := .reg c0l0
def c0l1 : List AOp := [oD 8 (.mv (.t 0)),
oD 9 (.call false 16 [(.t 8)]),
oD 10 (.un .not (.t 9)),
oD 11 (.mv (.t 10)),
oG 12 (.mv (.t 1)) 11 false,
oG 13 (.mv (.t 2)) 11 false,
oG 14 (.call false 29 [(.t 12), (.t 13)]) 11 false,
oG 15 (.un .not (.t 14)) 11 false,
oD 16 (.pick (.t 11) (.k (.bool true)) (.t 15))]
def c0_1 : AC := .reg c0l1
def c0l2 : List AOp := [oD 6 (.mv (.k (.slc []))),
oD 7 (.mv (.k (.int .i64 1)))]
def c0_2 : AC := .reg c0l2
def c0_3 : AC := .seq c0_2 .ret
def c0_4 : AC := .cond (.t 16) c0_3 .skip
def c0_5 : AC := .seq c0_1 c0_4
def c0l6 : List AOp := [oD 17 (.mv (.t 0)),
oD 18 (.mv (.t 1)),
oD 19 (.call false 32 [(.t 17), (.k (.int .i64 0)), (.t 18)]),
oD 20 (.mv (.t 0)),
oD 21 (.mv (.t 1)),
oD 22 (.mv (.t 2)),
oD 23 (.bin .add (.t 21) (.t 22)),
oD 24 (.call false 32 [(.t 20), (.t 23), (.k (.int .i64 16777216))]),
oD 25 (.blds false [(.slc [])] 2 [(0, (.t 19)), (1, (.t 24))]),
oD 26 (.call false 31 [(.t 25)]),
oD 27 (.call false 30 [(.t 26)]),
oD 6 (.mv (.t 27)),
oD 7 (.mv (.k (.int .i64 0)))]
def c0_6 : AC := .reg c0l6
def c0_7 : AC := .seq c0_6 .ret
def c0_8 : AC := .seq c0_5 c0_7
def c0_9 : AC := .seq c0_0 c0_8
def ac_ext_Cut : AC := c0_9
theorem cm7 : compF Tryz.prog [] (drawR Tryz.prog [] Tryz.f12.ntmps) [] 3 Tryz.f12 = some (ac_ext_Cut, [.t 6, .t 7]) := by kernel_rfl
def U7 := J oA (J (J (J (J @ac_ext_Cut.eq_1 (@mR _ _ c0_0.eq_1)) (J (@mR _ _ c0_1.eq_1) (@mR _ _ c0_2.eq_1))) (J (J (@mU _ _ c0_3.eq_1) (@mU _ _ c0_4.eq_1)) (J (@mU _ _ c0_5.eq_1) (@mR _ _ c0_6.eq_1)))) (J (J (J (@mU _ _ c0_7.eq_1) (@mU _ _ c0_8.eq_1)) (J (@mU _ _ c0_9.eq_1) @c0l0.eq_1)) (J (J @c0l1.eq_1 @c0l2.eq_1) @c0l6.eq_1)))

/- scoria/ext.Over -/
def c1l0 : List AOp := [oD 3 (.box (.t 1)),
oD 4 (.mv (.k (.slc []))),
oD 5 (.mv (.k (.int .i64 0)))]
def c1_0 : AC := .reg c1l0
def c1l1 : List AOp := [oD 6 (.mv (.t 0)),
oD 7 (.call false 16 [(.t 6)]),
oD 8 (.un .not (.t 7)),
oD 9 (.mv (.t 8)),
oG 10 (.load (some 4) (.t 3)) 9 false,
oG 11 (.call false 26 [(.t 10)]) 9 false,
oG 12 (.un .not (.t 11)) 9 false,
oD 13 (.pick (.t 9) (.k (.bool true)) (.t 12))]
def c1_1 : AC := .reg c1l1
def c1l2 : List AOp := [oD 4 (.mv (.k (.slc []))),
oD 5 (.mv (.k (.int .i64 1)))]
def c1_2 : AC := .reg c1l2
def c1_3 : AC := .seq c1_2 .ret
def c1_4 : AC := .cond (.t 13) c1_3 .skip
def c1_5 : AC := .seq c1_1 c1_4
def c1l6 : List AOp := [oD 14 (.mv (.t 0)),
oD 15 (.faddr 0 (.t 3)),
oD 16 (.load none (.t 15)),
oD 17 (.call false 32 [(.t 14), (.k (.int .i64 0)), (.t 16)]),
oD 18 (.load (some 4) (.t 3)),
oD 19 (.blds false [(.int .i64 0), (.int .i64 0), (.int .i64 0), (.int .i64 0)] 1 [(0, (.t 18))]),
oD 20 (.mv (.t 0)),
oD 21 (.load (some 4) (.t 3)),
oD 22 (.call false 33 [(.t 21)]),
oD 23 (.call false 32 [(.t 20), (.t 22), (.k (.int .i64 16777216))]),
oD 24 (.blds false [(.slc [])] 3 [(0, (.t 17)), (1, (.t 19)), (2, (.t 23))]),
oD 25 (.call false 31 [(.t 24)]),
oD 26 (.call false 30 [(.t 25)]),
oD 4 (.mv (.t 26)),
oD 5 (.mv (.k (.int .i64 0)))]
def c1_6 : AC := .dreg 0 c1l6
def c1_7 : AC := .seq c1_6 .ret
def c1_8 : AC := .seq c1_5 c1_7
def c1_9 : AC := .seq c1_0 c1_8
def ac_ext_Over : AC := c1_9
theorem cm9 : compF Tryz.prog [] (drawR Tryz.prog [] Tryz.f13.ntmps) [] 2 Tryz.f13 = some (ac_ext_Over, [.t 4, .t 5]) := by kernel_rfl
def U9 := J oA (J (J (J (J @ac_ext_Over.eq_1 (@mR _ _ c1_0.eq_1)) (J (@mR _ _ c1_1.eq_1) (@mR _ _ c1_2.eq_1))) (J (J (@mU _ _ c1_3.eq_1) (@mU _ _ c1_4.eq_1)) (J (@mU _ _ c1_5.eq_1) (@mD _ _ _ c1_6.eq_1)))) (J (J (J (@mU _ _ c1_7.eq_1) (@mU _ _ c1_8.eq_1)) (J (@mU _ _ c1_9.eq_1) @c1l0.eq_1)) (J (J @c1l1.eq_1 @c1l2.eq_1) @c1l6.eq_1)))

/- scoria/ext.Check -/
def c3l0 : List AOp := [oD 2 (.mv (.k (.bool false)))]
def c3_0 : AC := .reg c3l0
def c3l1 : List AOp := [oD 5 (.mv (.t 0)),
oD 6 (.len (.t 5)),
oD 7 (.mv (.k (.int .i64 0)))]
def c3_1 : AC := .reg c3l1
def c3l2 : List AOp := [oD 8 (.bin .lss (.t 7) (.t 6))]
def c3_2 : AC := .reg c3l2
def c3_3 : AC := .cond (.t 8) .skip (.exit 0)
def c3l4 : List AOp := [oD 9 (.mv (.t 7)),
oD 10 (.isl 4 (.t 5) (.t 7)),
oD 11 (.load (some 4) (.t 10)),
oD 4 (.alloc [(.int .i64 0), (.int .i64 0), (.int .i64 0), (.int .i64 0)]),
oD 3 (.mv (.t 9)),
oN (.store 4 (.t 4) (.t 11))]
def c3_4 : AC := .reg c3l4
def c3l5 : List AOp := [oD 12 (.load (some 4) (.t 4)),
oD 13 (.call false 26 [(.t 12)]),
oD 14 (.un .not (.t 13)),
oD 15 (.mv (.t 14)),
oG 16 (.mv (.t 3)) 15 false,
oG 17 (.bin .gtr (.t 16) (.k (.int .i64 0))) 15 false,
oG 18 (.mv (.t 17)) 15 false,
oG 19 (.mv (.t 0)) 18 true,
oG 20 (.mv (.t 3)) 18 true,
oG 21 (.bin .sub (.t 20) (.k (.int .i64 1))) 18 true,
oG 22 (.isl 4 (.t 19) (.t 21)) 18 true,
oG 23 (.load (some 4) (.t 22)) 18 true,
oG 24 (.call false 33 [(.t 23)]) 18 true,
oG 25 (.faddr 0 (.t 4)) 18 true,
oG 26 (.load none (.t 25)) 18 true,
oG 27 (.bin .gtr (.t 24) (.t 26)) 18 true,
oG 28 (.mv (.t 27)) 18 true,
oG 29 (.mv (.t 0)) 28 false,
oG 30 (.mv (.t 3)) 28 false,
oG 31 (.bin .sub (.t 30) (.k (.int .i64 1))) 28 false,
oG 32 (.isl 4 (.t 29) (.t 31)) 28 false,
oG 33 (.load (some 4) (.t 32)) 28 false,
oG 34 (.load (some 4) (.t 4)) 28 false,
oG 35 (.call false 37 [(.t 33), (.t 34)]) 28 false,
oG 36 (.pick (.t 28) (.k (.bool true)) (.t 35)) 18 true,
oG 37 (.pick (.t 18) (.t 36) (.k (.bool false))) 15 false,
oD 38 (.pick (.t 15) (.k (.bool true)) (.t 37))]
def c3_5 : AC := .dreg 0 c3l5
def c3l6 : List AOp := [oD 2 (.mv (.k (.bool false)))]
def c3_6 : AC := .reg c3l6
def c3_7 : AC := .seq c3_6 .ret
def c3_8 : AC := .cond (.t 38) c3_7 .skip
def c3_9 : AC := .seq c3_5 c3_8
def c3_10 : AC := .seq c3_4 c3_9
def c3_11 : AC := .block 1 c3_10
def c3l12 : List AOp := [oD 39 (.bin .add (.t 7) (.k (.int .i64 1))),
oD 7 (.mv (.t 39))]
def c3_12 : AC := .reg c3l12
def c3_13 : AC := .seq c3_11 c3_12
def c3_14 : AC := .seq c3_3 c3_13
def c3_15 : AC := .seq c3_2 c3_14
def c3_16 : AC := .loop [0, 5, 6, 7] 0 c3_15
def c3_17 : AC := .block 0 c3_16
def c3_18 : AC := .seq c3_1 c3_17
def c3l19 : List AOp := [oD 2 (.mv (.k (.bool true)))]
def c3_19 : AC := .reg c3l19
def c3_20 : AC := .seq c3_19 .ret
def c3_21 : AC := .seq c3_18 c3_20
def c3_22 : AC := .seq c3_0 c3_21
def ac_ext_Check : AC := c3_22
theorem cm5 : compF Tryz.prog [] (drawR Tryz.prog [] Tryz.f16.ntmps) [([0, 5, 6, 7], 0)] 1 Tryz.f16 = some (ac_ext_Check, [.t 2]) := by kernel_rfl
def U5 := J oA (J (J (J (J (J @ac_ext_Check.eq_1 (@mR _ _ c3_0.eq_1)) (J (@mR _ _ c3_1.eq_1) (@mR _ _ c3_2.eq_1))) (J (J (@mU _ _ c3_3.eq_1) (@mR _ _ c3_4.eq_1)) (J (@mD _ _ _ c3_5.eq_1) (@mR _ _ c3_6.eq_1)))) (J (J (J (@mU _ _ c3_7.eq_1) (@mU _ _ c3_8.eq_1)) (J (@mU _ _ c3_9.eq_1) (@mU _ _ c3_10.eq_1))) (J (J (@mU _ _ c3_11.eq_1) (@mR _ _ c3_12.eq_1)) (J (@mU _ _ c3_13.eq_1) (@mU _ _ c3_14.eq_1))))) (J (J (J (J (@mU _ _ c3_15.eq_1) (@mU _ _ c3_16.eq_1)) (J (@mU _ _ c3_17.eq_1) (@mU _ _ c3_18.eq_1))) (J (J (@mR _ _ c3_19.eq_1) (@mU _ _ c3_20.eq_1)) (J (@mU _ _ c3_21.eq_1) (@mU _ _ c3_22.eq_1)))) (J (J (J @c3l0.eq_1 @c3l1.eq_1) (J @c3l2.eq_1 @c3l4.eq_1)) (J (J @c3l5.eq_1 @c3l6.eq_1) (J @c3l12.eq_1 @c3l19.eq_1)))))

/- scoria/ext.Count -/
def c4l0 : List AOp := [oD 2 (.mv (.k (.int .i64 0)))]
def c4_0 : AC := .reg c4l0
def c4l1 : List AOp := [oD 6 (.mv (.t 0)),
oD 7 (.call false 16 [(.t 6)]),
oD 8 (.un .not (.t 7))]
def c4_1 : AC := .reg c4l1
def c4l2 : List AOp := [oD 2 (.mv (.k (.int .i64 0)))]
def c4_2 : AC := .reg c4l2
def c4_3 : AC := .seq c4_2 .ret
def c4_4 : AC := .cond (.t 8) c4_3 .skip
def c4_5 : AC := .seq c4_1 c4_4
def c4l6 : List AOp := [oD 3 (.mv (.k (.int .i64 0)))]
def c4_6 : AC := .reg c4l6
def c4l7 : List AOp := [oD 9 (.mv (.t 0)),
oD 10 (.len (.t 9)),
oD 11 (.mv (.k (.int .i64 0)))]
def c4_7 : AC := .reg c4l7
def c4l8 : List AOp := [oD 12 (.bin .lss (.t 11) (.t 10))]
def c4_8 : AC := .reg c4l8
def c4_9 : AC := .cond (.t 12) .skip (.exit 0)
def c4l10 : List AOp := [oD 13 (.isl 4 (.t 9) (.t 11)),
oD 14 (.load (some 4) (.t 13)),
oD 5 (.alloc [(.int .i64 0), (.int .i64 0), (.int .i64 0), (.int .i64 0)]),
oN (.store 4 (.t 5) (.t 14))]
def c4_10 : AC := .reg c4l10
def c4l11 : List AOp := [oD 15 (.mv (.t 3)),
oD 16 (.faddr 1 (.t 5)),
oD 17 (.load none (.t 16)),
oD 18 (.bin .add (.t 15) (.t 17)),
oD 3 (.mv (.t 18))]
def c4_11 : AC := .reg c4l11
def c4_12 : AC := .seq c4_10 c4_11
def c4_13 : AC := .block 1 c4_12
def c4l14 : List AOp := [oD 19 (.bin .add (.t 11) (.k (.int .i64 1))),
oD 11 (.mv (.t 19))]
def c4_14 : AC := .reg c4l14
def c4_15 : AC := .seq c4_13 c4_14
def c4_16 : AC := .seq c4_9 c4_15
def c4_17 : AC := .seq c4_8 c4_16
def c4_18 : AC := .loop [3, 9, 10, 11] 0 c4_17
def c4_19 : AC := .block 0 c4_18
def c4_20 : AC := .seq c4_7 c4_19
def c4l21 : List AOp := [oD 20 (.mv (.t 3)),
oD 2 (.mv (.t 20))]
def c4_21 : AC := .reg c4l21
def c4_22 : AC := .seq c4_21 .ret
def c4_23 : AC := .seq c4_20 c4_22
def c4_24 : AC := .seq c4_6 c4_23
def c4_25 : AC := .seq c4_5 c4_24
def c4_26 : AC := .seq c4_0 c4_25
def ac_ext_Count : AC := c4_26
theorem cm6 : compF Tryz.prog [] (drawR Tryz.prog [] Tryz.f17.ntmps) [([3, 9, 10, 11], 0)] 1 Tryz.f17 = some (ac_ext_Count, [.t 2]) := by kernel_rfl
def U6 := J oA (J (J (J (J (J (J @ac_ext_Count.eq_1 (@mR _ _ c4_0.eq_1)) (@mR _ _ c4_1.eq_1)) (J (@mR _ _ c4_2.eq_1) (@mU _ _ c4_3.eq_1))) (J (J (J (@mU _ _ c4_4.eq_1) (@mU _ _ c4_5.eq_1)) (@mR _ _ c4_6.eq_1)) (J (@mR _ _ c4_7.eq_1) (@mR _ _ c4_8.eq_1)))) (J (J (J (J (@mU _ _ c4_9.eq_1) (@mR _ _ c4_10.eq_1)) (@mR _ _ c4_11.eq_1)) (J (@mU _ _ c4_12.eq_1) (@mU _ _ c4_13.eq_1))) (J (J (@mR _ _ c4_14.eq_1) (@mU _ _ c4_15.eq_1)) (J (@mU _ _ c4_16.eq_1) (@mU _ _ c4_17.eq_1))))) (J (J (J (J (J (@mU _ _ c4_18.eq_1) (@mU _ _ c4_19.eq_1)) (@mU _ _ c4_20.eq_1)) (J (@mR _ _ c4_21.eq_1) (@mU _ _ c4_22.eq_1))) (J (J (J (@mU _ _ c4_23.eq_1) (@mU _ _ c4_24.eq_1)) (@mU _ _ c4_25.eq_1)) (J (@mU _ _ c4_26.eq_1) @c4l0.eq_1))) (J (J (J (J @c4l1.eq_1 @c4l2.eq_1) @c4l6.eq_1) (J @c4l7.eq_1 @c4l8.eq_1)) (J (J @c4l10.eq_1 @c4l11.eq_1) (J @c4l14.eq_1 @c4l21.eq_1)))))

/- scoria/ext.One -/
def c5l0 : List AOp := [oD 1 (.box (.t 0)),
oD 2 (.mv (.k (.bool false)))]
def c5_0 : AC := .reg c5l0
def c5l1 : List AOp := [oD 3 (.faddr 0 (.t 1)),
oD 4 (.load none (.t 3)),
oD 5 (.faddr 1 (.t 1)),
oD 6 (.load none (.t 5)),
oD 7 (.call false 29 [(.t 4), (.t 6)]),
oD 8 (.un .not (.t 7)),
oD 9 (.mv (.t 8)),
oG 10 (.faddr 1 (.t 1)) 9 false,
oG 11 (.load none (.t 10)) 9 false,
oG 12 (.bin .lss (.t 11) (.k (.int .i64 1))) 9 false,
oD 13 (.pick (.t 9) (.k (.bool true)) (.t 12))]
def c5_1 : AC := .reg c5l1
def c5l2 : List AOp := [oD 2 (.mv (.k (.bool false)))]
def c5_2 : AC := .reg c5l2
def c5_3 : AC := .seq c5_2 .ret
def c5_4 : AC := .cond (.t 13) c5_3 .skip
def c5_5 : AC := .seq c5_1 c5_4
def c5l6 : List AOp := [oD 14 (.faddr 2 (.t 1)),
oD 15 (.load none (.t 14)),
oD 16 (.bin .eql (.t 15) (.k (.int .i64 1)))]
def c5_6 : AC := .reg c5l6
def c5l7 : List AOp := [oD 17 (.faddr 3 (.t 1)),
oD 18 (.load none (.t 17)),
oD 19 (.bin .eql (.t 18) (.k (.int .i64 0))),
oD 2 (.mv (.t 19))]
def c5_7 : AC := .reg c5l7
def c5_8 : AC := .seq c5_7 .ret
def c5_9 : AC := .cond (.t 16) c5_8 .skip
def c5_10 : AC := .seq c5_6 c5_9
def c5l11 : List AOp := [oD 20 (.faddr 2 (.t 1)),
oD 21 (.load none (.t 20)),
oD 22 (.bin .eql (.t 21) (.k (.int .i64 2))),
oD 23 (.mv (.t 22)),
oG 24 (.faddr 3 (.t 1)) 23 true,
oG 25 (.load none (.t 24)) 23 true,
oG 26 (.bin .geq (.t 25) (.k (.int .i64 0))) 23 true,
oD 27 (.pick (.t 23) (.t 26) (.k (.bool false))),
oD 28 (.mv (.t 27)),
oG 29 (.faddr 3 (.t 1)) 28 true,
oG 30 (.load none (.t 29)) 28 true,
oG 31 (.bin .leq (.t 30) (.k (.int .i64 2048))) 28 true,
oD 32 (.pick (.t 28) (.t 31) (.k (.bool false))),
oD 33 (.mv (.t 32)),
oG 34 (.faddr 1 (.t 1)) 33 true,
oG 35 (.load none (.t 34)) 33 true,
oG 36 (.faddr 3 (.t 1)) 33 true,
oG 37 (.load none (.t 36)) 33 true,
oG 38 (.bin .sub (.k (.int .i64 2048)) (.t 37)) 33 true,
oG 39 (.bin .leq (.t 35) (.t 38)) 33 true,
oD 40 (.pick (.t 33) (.t 39) (.k (.bool false))),
oD 2 (.mv (.t 40))]
def c5_11 : AC := .reg c5l11
def c5_12 : AC := .seq c5_11 .ret
def c5_13 : AC := .seq c5_10 c5_12
def c5_14 : AC := .seq c5_5 c5_13
def c5_15 : AC := .seq c5_0 c5_14
def ac_ext_One : AC := c5_15
theorem cm8 : compF Tryz.prog [] (drawR Tryz.prog [] Tryz.f26.ntmps) [] 1 Tryz.f26 = some (ac_ext_One, [.t 2]) := by kernel_rfl
def U8 := J oA (J (J (J (J (J @ac_ext_One.eq_1 (@mR _ _ c5_0.eq_1)) (@mR _ _ c5_1.eq_1)) (J (J (@mR _ _ c5_2.eq_1) (@mU _ _ c5_3.eq_1)) (@mU _ _ c5_4.eq_1))) (J (J (J (@mU _ _ c5_5.eq_1) (@mR _ _ c5_6.eq_1)) (@mR _ _ c5_7.eq_1)) (J (J (@mU _ _ c5_8.eq_1) (@mU _ _ c5_9.eq_1)) (@mU _ _ c5_10.eq_1)))) (J (J (J (J (@mR _ _ c5_11.eq_1) (@mU _ _ c5_12.eq_1)) (@mU _ _ c5_13.eq_1)) (J (J (@mU _ _ c5_14.eq_1) (@mU _ _ c5_15.eq_1)) @c5l0.eq_1)) (J (J (J @c5l1.eq_1 @c5l2.eq_1) @c5l6.eq_1) (J @c5l7.eq_1 @c5l11.eq_1))))

/- scoria/ext.span -/
def c6l0 : List AOp := [oD 4 (.mv (.k (.bool false)))]
def c6_0 : AC := .reg c6l0
def c6l1 : List AOp := [oD 5 (.mv (.t 0)),
oD 6 (.bin .geq (.t 5) (.k (.int .i64 0))),
oD 7 (.mv (.t 6)),
oG 8 (.mv (.t 1)) 7 true,
oG 9 (.bin .geq (.t 8) (.k (.int .i64 0))) 7 true,
oD 10 (.pick (.t 7) (.t 9) (.k (.bool false))),
oD 11 (.mv (.t 10)),
oG 12 (.mv (.t 0)) 11 true,
oG 13 (.bin .leq (.t 12) (.k (.int .i64 16777216))) 11 true,
oD 14 (.pick (.t 11) (.t 13) (.k (.bool false))),
oD 15 (.mv (.t 14)),
oG 16 (.mv (.t 1)) 15 true,
oG 17 (.mv (.t 0)) 15 true,
oG 18 (.bin .sub (.k (.int .i64 16777216)) (.t 17)) 15 true,
oG 19 (.bin .leq (.t 16) (.t 18)) 15 true,
oD 20 (.pick (.t 15) (.t 19) (.k (.bool false))),
oD 4 (.mv (.t 20))]
def c6_1 : AC := .reg c6l1
def c6_2 : AC := .seq c6_1 .ret
def c6_3 : AC := .seq c6_0 c6_2
def ac_ext_span : AC := c6_3
theorem cm13 : compF Tryz.prog [] (drawR Tryz.prog [] Tryz.f29.ntmps) [] 2 Tryz.f29 = some (ac_ext_span, [.t 4]) := by kernel_rfl
def U13 := J oA (J (J (J @ac_ext_span.eq_1 (@mR _ _ c6_0.eq_1)) (J (@mR _ _ c6_1.eq_1) (@mU _ _ c6_2.eq_1))) (J (J (@mU _ _ c6_3.eq_1) @c6l0.eq_1) @c6l1.eq_1))

/- scoria/ext.tidy -/
def c7l0 : List AOp := [oD 2 (.mv (.k (.slc [])))]
def c7_0 : AC := .reg c7l0
def c7l1 : List AOp := [oD 3 (.nilown 4)]
def c7_1 : AC := .reg c7l1
def c7l2 : List AOp := [oD 7 (.mv (.t 0)),
oD 8 (.len (.t 7)),
oD 9 (.mv (.k (.int .i64 0)))]
def c7_2 : AC := .reg c7l2
def c7l3 : List AOp := [oD 10 (.bin .lss (.t 9) (.t 8))]
def c7_3 : AC := .reg c7l3
def c7_4 : AC := .cond (.t 10) .skip (.exit 0)
def c7l5 : List AOp := [oD 11 (.isl 4 (.t 7) (.t 9)),
oD 12 (.load (some 4) (.t 11)),
oD 5 (.alloc [(.int .i64 0), (.int .i64 0), (.int .i64 0), (.int .i64 0)]),
oN (.store 4 (.t 5) (.t 12))]
def c7_5 : AC := .reg c7l5
def c7l6 : List AOp := [oD 13 (.mv (.t 3)),
oD 14 (.len (.t 13)),
oD 15 (.bin .sub (.t 14) (.k (.int .i64 1))),
oD 6 (.mv (.t 15))]
def c7_6 : AC := .reg c7l6
def c7l7 : List AOp := [oD 16 (.mv (.t 6)),
oD 17 (.bin .geq (.t 16) (.k (.int .i64 0))),
oD 18 (.mv (.t 17)),
oG 19 (.mv (.t 3)) 18 true,
oG 20 (.mv (.t 6)) 18 true,
oG 21 (.isl 4 (.t 19) (.t 20)) 18 true,
oG 22 (.load (some 4) (.t 21)) 18 true,
oG 23 (.load (some 4) (.t 5)) 18 true,
oG 24 (.call false 37 [(.t 22), (.t 23)]) 18 true,
oD 25 (.pick (.t 18) (.t 24) (.k (.bool false)))]
def c7_7 : AC := .dreg 0 c7l7
def c7l8 : List AOp := [oD 26 (.mv (.t 3)),
oD 27 (.mv (.t 6)),
oD 28 (.isl 4 (.t 26) (.t 27)),
oD 29 (.faddr 1 (.t 28)),
oD 30 (.load none (.t 29)),
oD 31 (.faddr 1 (.t 5)),
oD 32 (.load none (.t 31)),
oD 33 (.bin .add (.t 30) (.t 32)),
oD 34 (.isl 4 (.t 26) (.t 27)),
oD 35 (.faddr 1 (.t 34)),
oN (.store 1 (.t 35) (.t 33))]
def c7_8 : AC := .dreg 0 c7l8
def c7_9 : AC := .seq c7_8 (.exit 1)
def c7_10 : AC := .cond (.t 25) c7_9 .skip
def c7_11 : AC := .seq c7_7 c7_10
def c7_12 : AC := .seq c7_6 c7_11
def c7l13 : List AOp := [oD 36 (.mv (.t 3)),
oD 37 (.load (some 4) (.t 5)),
oD 38 (.blds false [(.int .i64 0), (.int .i64 0), (.int .i64 0), (.int .i64 0)] 1 [(0, (.t 37))]),
oD 39 (.app 4 32 [(.int .i64 0), (.int .i64 0), (.int .i64 0), (.int .i64 0)] (.t 36) (.t 38)),
oD 3 (.mv (.t 39))]
def c7_13 : AC := .reg c7l13
def c7_14 : AC := .seq c7_12 c7_13
def c7_15 : AC := .seq c7_5 c7_14
def c7_16 : AC := .block 1 c7_15
def c7l17 : List AOp := [oD 40 (.bin .add (.t 9) (.k (.int .i64 1))),
oD 9 (.mv (.t 40))]
def c7_17 : AC := .reg c7l17
def c7_18 : AC := .seq c7_16 c7_17
def c7_19 : AC := .seq c7_4 c7_18
def c7_20 : AC := .seq c7_3 c7_19
def c7_21 : AC := .loop [3, 7, 8, 9] 1 c7_20
def c7_22 : AC := .block 0 c7_21
def c7_23 : AC := .seq c7_2 c7_22
def c7l24 : List AOp := [oD 41 (.mv (.t 3)),
oD 2 (.mv (.t 41))]
def c7_24 : AC := .reg c7l24
def c7_25 : AC := .seq c7_24 .ret
def c7_26 : AC := .seq c7_23 c7_25
def c7_27 : AC := .seq c7_1 c7_26
def c7_28 : AC := .seq c7_0 c7_27
def ac_ext_tidy : AC := c7_28
theorem cm14 : compF Tryz.prog [3] (drawR Tryz.prog [3] Tryz.f30.ntmps) [([3, 7, 8, 9], 1)] 1 Tryz.f30 = some (ac_ext_tidy, [.t 2]) := by kernel_rfl
def U14 := J oA (J (J (J (J (J (J @ac_ext_tidy.eq_1 (@mR _ _ c7_0.eq_1)) (@mR _ _ c7_1.eq_1)) (J (J (@mR _ _ c7_2.eq_1) (@mR _ _ c7_3.eq_1)) (@mU _ _ c7_4.eq_1))) (J (J (J (@mR _ _ c7_5.eq_1) (@mR _ _ c7_6.eq_1)) (@mD _ _ _ c7_7.eq_1)) (J (@mD _ _ _ c7_8.eq_1) (@mU _ _ c7_9.eq_1)))) (J (J (J (J (@mU _ _ c7_10.eq_1) (@mU _ _ c7_11.eq_1)) (@mU _ _ c7_12.eq_1)) (J (@mR _ _ c7_13.eq_1) (@mU _ _ c7_14.eq_1))) (J (J (J (@mU _ _ c7_15.eq_1) (@mU _ _ c7_16.eq_1)) (@mR _ _ c7_17.eq_1)) (J (@mU _ _ c7_18.eq_1) (@mU _ _ c7_19.eq_1))))) (J (J (J (J (J (@mU _ _ c7_20.eq_1) (@mU _ _ c7_21.eq_1)) (@mU _ _ c7_22.eq_1)) (J (@mU _ _ c7_23.eq_1) (@mR _ _ c7_24.eq_1))) (J (J (J (@mU _ _ c7_25.eq_1) (@mU _ _ c7_26.eq_1)) (@mU _ _ c7_27.eq_1)) (J (@mU _ _ c7_28.eq_1) @c7l0.eq_1))) (J (J (J (J @c7l1.eq_1 @c7l2.eq_1) @c7l3.eq_1) (J @c7l5.eq_1 @c7l6.eq_1)) (J (J (J @c7l7.eq_1 @c7l8.eq_1) @c7l13.eq_1) (J @c7l17.eq_1 @c7l24.eq_1)))))

/- slices.Concat[[]scoria/api.Ext,scoria/api.Ext] -/
def a0l0 : List AOp := [oD 2 (.mv (.k (.slc [])))]
def a0_0 : AC := .reg a0l0
def a0l1 : List AOp := [oD 3 (.mv (.k (.int .i64 0)))]
def a0_1 : AC := .reg a0l1
def a0l2 : List AOp := [oD 9 (.mv (.t 0)),
oD 10 (.len (.t 9)),
oD 11 (.mv (.k (.int .i64 0)))]
def a0_2 : AC := .reg a0l2
def a0l3 : List AOp := [oD 12 (.bin .lss (.t 11) (.t 10))]
def a0_3 : AC := .reg a0l3
def a0_4 : AC := .cond (.t 12) .skip (.exit 0)
def a0l5 : List AOp := [oD 13 (.isl 1 (.t 9) (.t 11)),
oD 14 (.load none (.t 13)),
oD 5 (.mv (.t 14))]
def a0_5 : AC := .reg a0l5
def a0l6 : List AOp := [oD 15 (.mv (.t 3)),
oD 16 (.mv (.t 5)),
oD 17 (.len (.t 16)),
oD 18 (.bin .add (.t 15) (.t 17)),
oD 3 (.mv (.t 18))]
def a0_6 : AC := .reg a0l6
def a0l7 : List AOp := [oD 19 (.mv (.t 3)),
oD 20 (.bin .lss (.t 19) (.k (.int .i64 0)))]
def a0_7 : AC := .reg a0l7
def a0l8 : List AOp := [oD 21 (.mki 9 (.k (.str [108, 101, 110, 32, 111, 117, 116, 32, 111, 102, 32, 114, 97, 110, 103, 101]))),
oN (.fail)]
def a0_8 : AC := .reg a0l8
def a0_9 : AC := .cond (.t 20) a0_8 .skip
def a0_10 : AC := .seq a0_7 a0_9
def a0_11 : AC := .seq a0_6 a0_10
def a0_12 : AC := .seq a0_5 a0_11
def a0_13 : AC := .block 1 a0_12
def a0l14 : List AOp := [oD 22 (.bin .add (.t 11) (.k (.int .i64 1))),
oD 11 (.mv (.t 22))]
def a0_14 : AC := .reg a0l14
def a0_15 : AC := .seq a0_13 a0_14
def a0_16 : AC := .seq a0_4 a0_15
def a0_17 : AC := .seq a0_3 a0_16
def a0_18 : AC := .loop [0, 3, 9, 10, 11] 0 a0_17
def a0_19 : AC := .block 0 a0_18
def a0_20 : AC := .seq a0_2 a0_19
def a0l21 : List AOp := [oD 23 (.mv (.t 3)),
oD 24 (.call true 53 [(.k .nils), (.t 23)]),
oD 6 (.mv (.t 24))]
def a0_21 : AC := .reg a0l21
def a0l22 : List AOp := [oD 25 (.mv (.t 0)),
oD 26 (.len (.t 25)),
oD 27 (.mv (.k (.int .i64 0)))]
def a0_22 : AC := .reg a0l22
def a0l23 : List AOp := [oD 28 (.bin .lss (.t 27) (.t 26))]
def a0_23 : AC := .reg a0l23
def a0_24 : AC := .cond (.t 28) .skip (.exit 2)
def a0l25 : List AOp := [oD 29 (.isl 1 (.t 25) (.t 27)),
oD 30 (.load none (.t 29)),
oD 8 (.mv (.t 30))]
def a0_25 : AC := .reg a0l25
def a0l26 : List AOp := [oD 31 (.mv (.t 6)),
oD 32 (.mv (.t 8)),
oD 33 (.app 4 32 [(.int .i64 0), (.int .i64 0), (.int .i64 0), (.int .i64 0)] (.t 31) (.t 32)),
oD 6 (.mv (.t 33))]
def a0_26 : AC := .reg a0l26
def a0_27 : AC := .seq a0_25 a0_26
def a0_28 : AC := .block 3 a0_27
def a0l29 : List AOp := [oD 34 (.bin .add (.t 27) (.k (.int .i64 1))),
oD 27 (.mv (.t 34))]
def a0_29 : AC := .reg a0l29
def a0_30 : AC := .seq a0_28 a0_29
def a0_31 : AC := .seq a0_24 a0_30
def a0_32 : AC := .seq a0_23 a0_31
def a0_33 : AC := .loop [6, 25, 26, 27] 1 a0_32
def a0_34 : AC := .block 2 a0_33
def a0_35 : AC := .seq a0_22 a0_34
def a0l36 : List AOp := [oD 35 (.mv (.t 6)),
oD 2 (.mv (.t 35))]
def a0_36 : AC := .reg a0l36
def a0_37 : AC := .seq a0_36 .ret
def a0_38 : AC := .seq a0_35 a0_37
def a0_39 : AC := .seq a0_21 a0_38
def a0_40 : AC := .seq a0_20 a0_39
def a0_41 : AC := .seq a0_1 a0_40
def a0_42 : AC := .seq a0_0 a0_41
def ac_slices_Concat_api_Ext : AC := a0_42
theorem cm45 : compF Tryz.prog [24, 3000053] (drawR Tryz.prog [24, 3000053] Tryz.f31.ntmps) [([0, 3, 9, 10, 11], 0), ([6, 25, 26, 27], 1)] 1 Tryz.f31 = some (ac_slices_Concat_api_Ext, [.t 2]) := by kernel_rfl
def U45 := J oA (J (J (J (J (J (J @ac_slices_Concat_api_Ext.eq_1 (@mR _ _ a0_0.eq_1)) (J (@mR _ _ a0_1.eq_1) (@mR _ _ a0_2.eq_1))) (J (J (@mR _ _ a0_3.eq_1) (@mU _ _ a0_4.eq_1)) (J (@mR _ _ a0_5.eq_1) (@mR _ _ a0_6.eq_1)))) (J (J (J (@mR _ _ a0_7.eq_1) (@mR _ _ a0_8.eq_1)) (J (@mU _ _ a0_9.eq_1) (@mU _ _ a0_10.eq_1))) (J (J (@mU _ _ a0_11.eq_1) (@mU _ _ a0_12.eq_1)) (@mU _ _ a0_13.eq_1)))) (J (J (J (J (@mR _ _ a0_14.eq_1) (@mU _ _ a0_15.eq_1)) (J (@mU _ _ a0_16.eq_1) (@mU _ _ a0_17.eq_1))) (J (J (@mU _ _ a0_18.eq_1) (@mU _ _ a0_19.eq_1)) (J (@mU _ _ a0_20.eq_1) (@mR _ _ a0_21.eq_1)))) (J (J (J (@mR _ _ a0_22.eq_1) (@mR _ _ a0_23.eq_1)) (J (@mU _ _ a0_24.eq_1) (@mR _ _ a0_25.eq_1))) (J (J (@mR _ _ a0_26.eq_1) (@mU _ _ a0_27.eq_1)) (@mU _ _ a0_28.eq_1))))) (J (J (J (J (J (@mR _ _ a0_29.eq_1) (@mU _ _ a0_30.eq_1)) (J (@mU _ _ a0_31.eq_1) (@mU _ _ a0_32.eq_1))) (J (J (@mU _ _ a0_33.eq_1) (@mU _ _ a0_34.eq_1)) (J (@mU _ _ a0_35.eq_1) (@mR _ _ a0_36.eq_1)))) (J (J (J (@mU _ _ a0_37.eq_1) (@mU _ _ a0_38.eq_1)) (J (@mU _ _ a0_39.eq_1) (@mU _ _ a0_40.eq_1))) (J (J (@mU _ _ a0_41.eq_1) (@mU _ _ a0_42.eq_1)) @a0l0.eq_1))) (J (J (J (J @a0l1.eq_1 @a0l2.eq_1) (J @a0l3.eq_1 @a0l5.eq_1)) (J (J @a0l6.eq_1 @a0l7.eq_1) (J @a0l8.eq_1 @a0l14.eq_1))) (J (J (J @a0l21.eq_1 @a0l22.eq_1) (J @a0l23.eq_1 @a0l25.eq_1)) (J (J @a0l26.eq_1 @a0l29.eq_1) @a0l36.eq_1)))))

/- scoria/ext.parts -/
def c9l0 : List AOp := [oD 6 (.mv (.k (.slc [])))]
def c9_0 : AC := .reg c9l0
def c9l1 : List AOp := [oD 7 (.nilown 4)]
def c9_1 : AC := .reg c9l1
def c9l2 : List AOp := [oD 12 (.mv (.t 0)),
oD 13 (.len (.t 12)),
oD 14 (.mv (.k (.int .i64 0)))]
def c9_2 : AC := .reg c9l2
def c9l3 : List AOp := [oD 15 (.bin .lss (.t 14) (.t 13))]
def c9_3 : AC := .reg c9l3
def c9_4 : AC := .cond (.t 15) .skip (.exit 0)
def c9l5 : List AOp := [oD 16 (.isl 4 (.t 12) (.t 14)),
oD 17 (.load (some 4) (.t 16)),
oD 9 (.alloc [(.int .i64 0), (.int .i64 0), (.int .i64 0), (.int .i64 0)]),
oN (.store 4 (.t 9) (.t 17))]
def c9_5 : AC := .reg c9l5
def c9l6 : List AOp := [oD 19 (.load (some 4) (.t 9)),
oD 20 (.mv (.t 1)),
oD 21 (.mv (.t 2)),
oD 22 (.call false 54 [(.t 19), (.t 20), (.t 21)]),
oD 18 (.mv (.t 22)),
oD 23 (.ext 0 (.t 18)),
oD 24 (.ext 1 (.t 18)),
oD 10 (.alloc [(.int .i64 0), (.int .i64 0), (.int .i64 0), (.int .i64 0)]),
oN (.store 4 (.t 10) (.t 23)),
oD 11 (.mv (.t 24))]
def c9_6 : AC := .reg c9l6
def c9l7 : List AOp := [oD 25 (.mv (.t 11))]
def c9_7 : AC := .reg c9l7
def c9l8 : List AOp := [oD 26 (.mv (.t 7)),
oD 27 (.load (some 4) (.t 10)),
oD 28 (.blds false [(.int .i64 0), (.int .i64 0), (.int .i64 0), (.int .i64 0)] 1 [(0, (.t 27))]),
oD 29 (.app 4 32 [(.int .i64 0), (.int .i64 0), (.int .i64 0), (.int .i64 0)] (.t 26) (.t 28)),
oD 7 (.mv (.t 29))]
def c9_8 : AC := .reg c9l8
def c9_9 : AC := .cond (.t 25) c9_8 .skip
def c9_10 : AC := .seq c9_7 c9_9
def c9_11 : AC := .seq c9_6 c9_10
def c9_12 : AC := .seq c9_5 c9_11
def c9_13 : AC := .block 1 c9_12
def c9l14 : List AOp := [oD 30 (.bin .add (.t 14) (.k (.int .i64 1))),
oD 14 (.mv (.t 30))]
def c9_14 : AC := .reg c9l14
def c9_15 : AC := .seq c9_13 c9_14
def c9_16 : AC := .seq c9_4 c9_15
def c9_17 : AC := .seq c9_3 c9_16
def c9_18 : AC := .loop [1, 2, 7, 12, 13, 14] 1 c9_17
def c9_19 : AC := .block 0 c9_18
def c9_20 : AC := .seq c9_2 c9_19
def c9l21 : List AOp := [oD 31 (.mv (.t 7)),
oD 6 (.mv (.t 31))]
def c9_21 : AC := .reg c9l21
def c9_22 : AC := .seq c9_21 .ret
def c9_23 : AC := .seq c9_20 c9_22
def c9_24 : AC := .seq c9_1 c9_23
def c9_25 : AC := .seq c9_0 c9_24
def ac_ext_parts : AC := c9_25
theorem cm12 : compF Tryz.prog [7] (drawR Tryz.prog [7] Tryz.f32.ntmps) [([1, 2, 7, 12, 13, 14], 1)] 3 Tryz.f32 = some (ac_ext_parts, [.t 6]) := by kernel_rfl
def U12 := J oA (J (J (J (J (J (J @ac_ext_parts.eq_1 (@mR _ _ c9_0.eq_1)) (@mR _ _ c9_1.eq_1)) (J (@mR _ _ c9_2.eq_1) (@mR _ _ c9_3.eq_1))) (J (J (J (@mU _ _ c9_4.eq_1) (@mR _ _ c9_5.eq_1)) (@mR _ _ c9_6.eq_1)) (J (@mR _ _ c9_7.eq_1) (@mR _ _ c9_8.eq_1)))) (J (J (J (J (@mU _ _ c9_9.eq_1) (@mU _ _ c9_10.eq_1)) (@mU _ _ c9_11.eq_1)) (J (@mU _ _ c9_12.eq_1) (@mU _ _ c9_13.eq_1))) (J (J (@mR _ _ c9_14.eq_1) (@mU _ _ c9_15.eq_1)) (J (@mU _ _ c9_16.eq_1) (@mU _ _ c9_17.eq_1))))) (J (J (J (J (J (@mU _ _ c9_18.eq_1) (@mU _ _ c9_19.eq_1)) (@mU _ _ c9_20.eq_1)) (J (@mR _ _ c9_21.eq_1) (@mU _ _ c9_22.eq_1))) (J (J (@mU _ _ c9_23.eq_1) (@mU _ _ c9_24.eq_1)) (J (@mU _ _ c9_25.eq_1) @c9l0.eq_1))) (J (J (J (J @c9l1.eq_1 @c9l2.eq_1) @c9l3.eq_1) (J @c9l5.eq_1 @c9l6.eq_1)) (J (J @c9l7.eq_1 @c9l8.eq_1) (J @c9l14.eq_1 @c9l21.eq_1)))))

/- scoria/ext.end -/
def c10l0 : List AOp := [oD 1 (.box (.t 0)),
oD 2 (.mv (.k (.int .i64 0)))]
def c10_0 : AC := .reg c10l0
def c10l1 : List AOp := [oD 3 (.faddr 0 (.t 1)),
oD 4 (.load none (.t 3)),
oD 5 (.faddr 1 (.t 1)),
oD 6 (.load none (.t 5)),
oD 7 (.bin .add (.t 4) (.t 6)),
oD 2 (.mv (.t 7))]
def c10_1 : AC := .reg c10l1
def c10_2 : AC := .seq c10_1 .ret
def c10_3 : AC := .seq c10_0 c10_2
def ac_ext_end : AC := c10_3
theorem cm10 : compF Tryz.prog [] (drawR Tryz.prog [] Tryz.f33.ntmps) [] 1 Tryz.f33 = some (ac_ext_end, [.t 2]) := by kernel_rfl
def U10 := J oA (J (J (J @ac_ext_end.eq_1 (@mR _ _ c10_0.eq_1)) (J (@mR _ _ c10_1.eq_1) (@mU _ _ c10_2.eq_1))) (J (J (@mU _ _ c10_3.eq_1) @c10l0.eq_1) @c10l1.eq_1))

/- slices.IndexFunc[[]scoria/api.Ext,scoria/api.Ext] -/
def a1l0 : List AOp := [oD 4 (.mv (.k (.int .i64 0)))]
def a1_0 : AC := .reg a1l0
def a1l1 : List AOp := [oD 6 (.mv (.t 0)),
oD 7 (.len (.t 6)),
oD 8 (.mv (.k (.int .i64 0)))]
def a1_1 : AC := .reg a1l1
def a1l2 : List AOp := [oD 9 (.bin .lss (.t 8) (.t 7))]
def a1_2 : AC := .reg a1l2
def a1_3 : AC := .cond (.t 9) .skip (.exit 0)
def a1l4 : List AOp := [oD 10 (.mv (.t 8)),
oD 5 (.mv (.t 10))]
def a1_4 : AC := .reg a1l4
def a1l5 : List AOp := [oD 11 (.mv (.t 1)),
oD 12 (.mv (.t 0)),
oD 13 (.mv (.t 5)),
oD 14 (.isl 4 (.t 12) (.t 13)),
oD 15 (.load (some 4) (.t 14)),
oD 16 (.callv (.t 11) [(.t 15)])]
def a1_5 : AC := .reg a1l5
def a1l6 : List AOp := [oD 17 (.mv (.t 5)),
oD 4 (.mv (.t 17))]
def a1_6 : AC := .reg a1l6
def a1_7 : AC := .seq a1_6 .ret
def a1_8 : AC := .cond (.t 16) a1_7 .skip
def a1_9 : AC := .seq a1_5 a1_8
def a1_10 : AC := .seq a1_4 a1_9
def a1_11 : AC := .block 1 a1_10
def a1l12 : List AOp := [oD 18 (.bin .add (.t 8) (.k (.int .i64 1))),
oD 8 (.mv (.t 18))]
def a1_12 : AC := .reg a1l12
def a1_13 : AC := .seq a1_11 a1_12
def a1_14 : AC := .seq a1_3 a1_13
def a1_15 : AC := .seq a1_2 a1_14
def a1_16 : AC := .loop [0, 1, 7, 8] 0 a1_15
def a1_17 : AC := .block 0 a1_16
def a1_18 : AC := .seq a1_1 a1_17
def a1l19 : List AOp := [oD 4 (.mv (.k (.int .i64 (-1))))]
def a1_19 : AC := .reg a1l19
def a1_20 : AC := .seq a1_19 .ret
def a1_21 : AC := .seq a1_18 a1_20
def a1_22 : AC := .seq a1_0 a1_21
def ac_slices_IndexFunc_api_Ext : AC := a1_22
theorem cm53 : compF Tryz.prog [] (drawR Tryz.prog [] Tryz.f35.ntmps) [([0, 1, 7, 8], 0)] 2 Tryz.f35 = some (ac_slices_IndexFunc_api_Ext, [.t 4]) := by kernel_rfl
def U53 := J oA (J (J (J (J (J @ac_slices_IndexFunc_api_Ext.eq_1 (@mR _ _ a1_0.eq_1)) (J (@mR _ _ a1_1.eq_1) (@mR _ _ a1_2.eq_1))) (J (J (@mU _ _ a1_3.eq_1) (@mR _ _ a1_4.eq_1)) (J (@mR _ _ a1_5.eq_1) (@mR _ _ a1_6.eq_1)))) (J (J (J (@mU _ _ a1_7.eq_1) (@mU _ _ a1_8.eq_1)) (J (@mU _ _ a1_9.eq_1) (@mU _ _ a1_10.eq_1))) (J (J (@mU _ _ a1_11.eq_1) (@mR _ _ a1_12.eq_1)) (J (@mU _ _ a1_13.eq_1) (@mU _ _ a1_14.eq_1))))) (J (J (J (J (@mU _ _ a1_15.eq_1) (@mU _ _ a1_16.eq_1)) (J (@mU _ _ a1_17.eq_1) (@mU _ _ a1_18.eq_1))) (J (J (@mR _ _ a1_19.eq_1) (@mU _ _ a1_20.eq_1)) (J (@mU _ _ a1_21.eq_1) (@mU _ _ a1_22.eq_1)))) (J (J (J @a1l0.eq_1 @a1l1.eq_1) (J @a1l2.eq_1 @a1l4.eq_1)) (J (J @a1l5.eq_1 @a1l6.eq_1) (J @a1l12.eq_1 @a1l19.eq_1)))))

/- scoria/ext.together -/
def c13l0 : List AOp := [oD 2 (.box (.t 0)),
oD 3 (.box (.t 1)),
oD 4 (.mv (.k (.bool false)))]
def c13_0 : AC := .reg c13l0
def c13l1 : List AOp := [⟨(some 6), .load (some 4) (.t 2), none, none, [0], none⟩,
  ⟨(some 7), .call false 33 [(.t 6)], none, none, [0], none⟩,
oD 8 (.faddr 1 (.t 3)),
  ⟨(some 9), .load none (.t 8), none, none, [0], none⟩,
oD 10 (.faddr 2 (.t 2)),
  ⟨(some 11), .load none (.t 10), none, none, [0], none⟩,
oD 12 (.build [(.int .i64 0), (.int .i64 0), (.int .i64 0), (.int .i64 0)] [(0, 1, (.t 7)), (1, 1, (.t 9)), (2, 1, (.t 11))]),
  ⟨(some 5), .alloc [(.int .i64 0), (.int .i64 0), (.int .i64 0), (.int .i64 0)], none, (some 0), [], none⟩,
oN (.store 4 (.t 5) (.t 12))]
def c13_1 : AC := .dreg 1 c13l1
def c13l2 : List AOp := [oD 13 (.faddr 2 (.t 2)),
oD 14 (.load none (.t 13)),
oD 15 (.bin .eql (.t 14) (.k (.int .i64 2)))]
def c13_2 : AC := .reg c13l2
def c13l3 : List AOp := [oD 16 (.faddr 3 (.t 2)),
oD 17 (.load none (.t 16)),
oD 18 (.faddr 1 (.t 2)),
oD 19 (.load none (.t 18)),
oD 20 (.bin .add (.t 17) (.t 19)),
oD 21 (.faddr 3 (.t 5)),
oN (.store 1 (.t 21) (.t 20))]
def c13_3 : AC := .reg c13l3
def c13_4 : AC := .cond (.t 15) c13_3 .skip
def c13_5 : AC := .seq c13_2 c13_4
def c13l6 : List AOp := [oD 22 (.load (some 4) (.t 5)),
oD 23 (.load (some 4) (.t 3)),
oD 24 (.eqs false [.i, .i, .i, .i] (.t 22) (.t 23)),
oD 4 (.mv (.t 24))]
def c13_6 : AC := .reg c13l6
def c13_7 : AC := .seq c13_6 .ret
def c13_8 : AC := .seq c13_5 c13_7
def c13_9 : AC := .seq c13_1 c13_8
def c13_10 : AC := .seq c13_0 c13_9
def ac_ext_together : AC := c13_10
theorem cm15 : compF Tryz.prog [] (drawR Tryz.prog [] Tryz.f37.ntmps) [] 2 Tryz.f37 = some (ac_ext_together, [.t 4]) := by kernel_rfl
def U15 := J oA (J (J (J (J (J @ac_ext_together.eq_1 (@mR _ _ c13_0.eq_1)) (@mD _ _ _ c13_1.eq_1)) (J (@mR _ _ c13_2.eq_1) (@mR _ _ c13_3.eq_1))) (J (J (@mU _ _ c13_4.eq_1) (@mU _ _ c13_5.eq_1)) (J (@mR _ _ c13_6.eq_1) (@mU _ _ c13_7.eq_1)))) (J (J (J (@mU _ _ c13_8.eq_1) (@mU _ _ c13_9.eq_1)) (J (@mU _ _ c13_10.eq_1) @c13l0.eq_1)) (J (J @c13l1.eq_1 @c13l2.eq_1) (J @c13l3.eq_1 @c13l6.eq_1))))

/- slices.Contains[[]scoria/api.Ext,scoria/api.Ext] -/
def c14l0 : List AOp := [oD 3 (.box (.t 1)),
oD 4 (.mv (.k (.bool false)))]
def c14_0 : AC := .reg c14l0
def c14l1 : List AOp := [oD 5 (.mv (.t 0)),
oD 6 (.load (some 4) (.t 3)),
oD 7 (.call false 70 [(.t 5), (.t 6)]),
oD 8 (.bin .geq (.t 7) (.k (.int .i64 0))),
oD 4 (.mv (.t 8))]
def c14_1 : AC := .reg c14l1
def c14_2 : AC := .seq c14_1 .ret
def c14_3 : AC := .seq c14_0 c14_2
def ac_slices_Contains_api_Ext : AC := c14_3
theorem cm48 : compF Tryz.prog [] (drawR Tryz.prog [] Tryz.f49.ntmps) [] 2 Tryz.f49 = some (ac_slices_Contains_api_Ext, [.t 4]) := by kernel_rfl
def U48 := J oA (J (J (J @ac_slices_Contains_api_Ext.eq_1 (@mR _ _ c14_0.eq_1)) (J (@mR _ _ c14_1.eq_1) (@mU _ _ c14_2.eq_1))) (J (J (@mU _ _ c14_3.eq_1) @c14l0.eq_1) @c14l1.eq_1))

/- slices.Grow[[]scoria/api.Ext,scoria/api.Ext] -/
def a2l0 : List AOp := [oD 4 (.mv (.k (.slc [])))]
def a2_0 : AC := .reg a2l0
def a2l1 : List AOp := [oD 5 (.mv (.t 1)),
oD 6 (.bin .lss (.t 5) (.k (.int .i64 0)))]
def a2_1 : AC := .reg a2l1
def a2l2 : List AOp := [oD 7 (.mki 9 (.k (.str [99, 97, 110, 110, 111, 116, 32, 98, 101, 32, 110, 101, 103, 97, 116, 105, 118, 101]))),
oN (.fail)]
def a2_2 : AC := .reg a2l2
def a2_3 : AC := .cond (.t 6) a2_2 .skip
def a2_4 : AC := .seq a2_1 a2_3
def a2l5 : List AOp := [oD 8 (.mv (.t 1)),
oD 9 (.mv (.t 0)),
oD 10 (.fail),
oD 11 (.mv (.t 0)),
oD 12 (.len (.t 11)),
oD 13 (.bin .sub (.t 10) (.t 12)),
oD 14 (.bin .sub (.t 8) (.t 13)),
oD 1 (.mv (.t 14))]
def a2_5 : AC := .reg a2l5
def a2l6 : List AOp := [oD 15 (.mv (.t 1)),
oD 16 (.bin .gtr (.t 15) (.k (.int .i64 0)))]
def a2_6 : AC := .reg a2l6
def a2l7 : List AOp := [oD 17 (.mv (.t 0)),
oD 18 (.mv (.t 0)),
oD 19 (.fail),
oD 20 (.ssl 4 (.t 17) none (some (.t 19))),
oD 21 (.mv (.t 1)),
oD 22 (.fail),
oD 23 (.mv (.t 0)),
oD 24 (.len (.t 23)),
oD 25 (.ssl 4 (.t 22) none (some (.t 24))),
oD 0 (.mv (.t 25))]
def a2_7 : AC := .reg a2l7
def a2_8 : AC := .cond (.t 16) a2_7 .skip
def a2_9 : AC := .seq a2_6 a2_8
def a2_10 : AC := .seq a2_5 a2_9
def a2l11 : List AOp := [oD 26 (.mv (.t 0)),
oD 4 (.mv (.t 26))]
def a2_11 : AC := .reg a2l11
def a2_12 : AC := .seq a2_11 .ret
def a2_13 : AC := .seq a2_10 a2_12
def a2_14 : AC := .seq a2_4 a2_13
def a2_15 : AC := .seq a2_0 a2_14
def ac_slices_Grow_api_Ext : AC := a2_15
theorem cm51 : compF Tryz.prog [] (drawR Tryz.prog [] Tryz.f53.ntmps) [] 2 Tryz.f53 = some (ac_slices_Grow_api_Ext, [.t 4]) := by kernel_rfl
def U51 := J oA (J (J (J (J (J @ac_slices_Grow_api_Ext.eq_1 (@mR _ _ a2_0.eq_1)) (@mR _ _ a2_1.eq_1)) (J (J (@mR _ _ a2_2.eq_1) (@mU _ _ a2_3.eq_1)) (@mU _ _ a2_4.eq_1))) (J (J (J (@mR _ _ a2_5.eq_1) (@mR _ _ a2_6.eq_1)) (@mR _ _ a2_7.eq_1)) (J (J (@mU _ _ a2_8.eq_1) (@mU _ _ a2_9.eq_1)) (@mU _ _ a2_10.eq_1)))) (J (J (J (J (@mR _ _ a2_11.eq_1) (@mU _ _ a2_12.eq_1)) (@mU _ _ a2_13.eq_1)) (J (J (@mU _ _ a2_14.eq_1) (@mU _ _ a2_15.eq_1)) @a2l0.eq_1)) (J (J (J @a2l1.eq_1 @a2l2.eq_1) @a2l5.eq_1) (J (J @a2l6.eq_1 @a2l7.eq_1) @a2l11.eq_1))))

/- scoria/ext.part -/
def c16l0 : List AOp := [oD 3 (.box (.t 0)),
oD 6 (.alloc [(.int .i64 0), (.int .i64 0), (.int .i64 0), (.int .i64 0)]),
oD 7 (.mv (.k (.bool false)))]
def c16_0 : AC := .reg c16l0
def c16l1 : List AOp := [oD 11 (.faddr 0 (.t 3)),
oD 12 (.load none (.t 11)),
oD 13 (.mv (.t 1)),
oD 14 (.mm true [(.t 12), (.t 13)]),
oD 15 (.load (some 4) (.t 3)),
oD 16 (.call false 33 [(.t 15)]),
oD 17 (.mv (.t 2)),
oD 18 (.mm false [(.t 16), (.t 17)]),
oD 8 (.mv (.t 14)),
oD 9 (.mv (.t 18))]
def c16_1 : AC := .dreg 0 c16l1
def c16l2 : List AOp := [oD 19 (.mv (.t 8)),
oD 20 (.mv (.t 9)),
oD 21 (.bin .geq (.t 19) (.t 20))]
def c16_2 : AC := .reg c16l2
def c16l3 : List AOp := [oD 22 (.build [(.int .i64 0), (.int .i64 0), (.int .i64 0), (.int .i64 0)] []),
oN (.store 4 (.t 6) (.t 22)),
oD 7 (.mv (.k (.bool false)))]
def c16_3 : AC := .reg c16l3
def c16_4 : AC := .seq c16_3 .ret
def c16_5 : AC := .cond (.t 21) c16_4 .skip
def c16_6 : AC := .seq c16_2 c16_5
def c16l7 : List AOp := [oD 23 (.mv (.t 8)),
oD 24 (.mv (.t 9)),
oD 25 (.mv (.t 8)),
oD 26 (.bin .sub (.t 24) (.t 25)),
oD 27 (.faddr 2 (.t 3)),
oD 28 (.load none (.t 27)),
oD 29 (.build [(.int .i64 0), (.int .i64 0), (.int .i64 0), (.int .i64 0)] [(0, 1, (.t 23)), (1, 1, (.t 26)), (2, 1, (.t 28))]),
oD 10 (.alloc [(.int .i64 0), (.int .i64 0), (.int .i64 0), (.int .i64 0)]),
oN (.store 4 (.t 10) (.t 29))]
def c16_7 : AC := .reg c16l7
def c16l8 : List AOp := [oD 30 (.faddr 2 (.t 3)),
oD 31 (.load none (.t 30)),
oD 32 (.bin .eql (.t 31) (.k (.int .i64 2)))]
def c16_8 : AC := .reg c16l8
def c16l9 : List AOp := [oD 33 (.faddr 3 (.t 3)),
oD 34 (.load none (.t 33)),
oD 35 (.mv (.t 8)),
oD 36 (.bin .add (.t 34) (.t 35)),
oD 37 (.faddr 0 (.t 3)),
oD 38 (.load none (.t 37)),
oD 39 (.bin .sub (.t 36) (.t 38)),
oD 40 (.faddr 3 (.t 10)),
oN (.store 1 (.t 40) (.t 39))]
def c16_9 : AC := .reg c16l9
def c16_10 : AC := .cond (.t 32) c16_9 .skip
def c16_11 : AC := .seq c16_8 c16_10
def c16l12 : List AOp := [oD 41 (.load (some 4) (.t 10)),
oN (.store 4 (.t 6) (.t 41)),
oD 7 (.mv (.k (.bool true)))]
def c16_12 : AC := .reg c16l12
def c16_13 : AC := .seq c16_12 .ret
def c16_14 : AC := .seq c16_11 c16_13
def c16_15 : AC := .seq c16_7 c16_14
def c16_16 : AC := .seq c16_6 c16_15
def c16_17 : AC := .seq c16_1 c16_16
def c16_18 : AC := .seq c16_0 c16_17
def ac_ext_part : AC := c16_18
theorem cm11 : compF Tryz.prog [] (drawR Tryz.prog [] Tryz.f54.ntmps) [] 3 Tryz.f54 = some (ac_ext_part, [.c 6 (some 4), .t 7]) := by kernel_rfl
def U11 := J oA (J (J (J (J (J @ac_ext_part.eq_1 (@mR _ _ c16_0.eq_1)) (J (@mD _ _ _ c16_1.eq_1) (@mR _ _ c16_2.eq_1))) (J (J (@mR _ _ c16_3.eq_1) (@mU _ _ c16_4.eq_1)) (@mU _ _ c16_5.eq_1))) (J (J (J (@mU _ _ c16_6.eq_1) (@mR _ _ c16_7.eq_1)) (J (@mR _ _ c16_8.eq_1) (@mR _ _ c16_9.eq_1))) (J (J (@mU _ _ c16_10.eq_1) (@mU _ _ c16_11.eq_1)) (@mR _ _ c16_12.eq_1)))) (J (J (J (J (@mU _ _ c16_13.eq_1) (@mU _ _ c16_14.eq_1)) (J (@mU _ _ c16_15.eq_1) (@mU _ _ c16_16.eq_1))) (J (J (@mU _ _ c16_17.eq_1) (@mU _ _ c16_18.eq_1)) @c16l0.eq_1)) (J (J (J @c16l1.eq_1 @c16l2.eq_1) (J @c16l3.eq_1 @c16l7.eq_1)) (J (J @c16l8.eq_1 @c16l9.eq_1) @c16l12.eq_1))))

/- slices.Index[[]scoria/api.Ext,scoria/api.Ext] -/
def c17l0 : List AOp := [oD 3 (.box (.t 1)),
oD 4 (.mv (.k (.int .i64 0)))]
def c17_0 : AC := .reg c17l0
def c17l1 : List AOp := [oD 6 (.mv (.t 0)),
oD 7 (.len (.t 6)),
oD 8 (.mv (.k (.int .i64 0)))]
def c17_1 : AC := .reg c17l1
def c17l2 : List AOp := [oD 9 (.bin .lss (.t 8) (.t 7))]
def c17_2 : AC := .reg c17l2
def c17_3 : AC := .cond (.t 9) .skip (.exit 0)
def c17l4 : List AOp := [oD 10 (.mv (.t 8)),
oD 5 (.mv (.t 10))]
def c17_4 : AC := .reg c17l4
def c17l5 : List AOp := [oD 11 (.load (some 4) (.t 3)),
oD 12 (.mv (.t 0)),
oD 13 (.mv (.t 5)),
oD 14 (.isl 4 (.t 12) (.t 13)),
oD 15 (.load (some 4) (.t 14)),
oD 16 (.eqs false [.i, .i, .i, .i] (.t 11) (.t 15))]
def c17_5 : AC := .dreg 0 c17l5
def c17l6 : List AOp := [oD 17 (.mv (.t 5)),
oD 4 (.mv (.t 17))]
def c17_6 : AC := .reg c17l6
def c17_7 : AC := .seq c17_6 .ret
def c17_8 : AC := .cond (.t 16) c17_7 .skip
def c17_9 : AC := .seq c17_5 c17_8
def c17_10 : AC := .seq c17_4 c17_9
def c17_11 : AC := .block 1 c17_10
def c17l12 : List AOp := [oD 18 (.bin .add (.t 8) (.k (.int .i64 1))),
oD 8 (.mv (.t 18))]
def c17_12 : AC := .reg c17l12
def c17_13 : AC := .seq c17_11 c17_12
def c17_14 : AC := .seq c17_3 c17_13
def c17_15 : AC := .seq c17_2 c17_14
def c17_16 : AC := .loop [0, 3, 7, 8] 1 c17_15
def c17_17 : AC := .block 0 c17_16
def c17_18 : AC := .seq c17_1 c17_17
def c17l19 : List AOp := [oD 4 (.mv (.k (.int .i64 (-1))))]
def c17_19 : AC := .reg c17l19
def c17_20 : AC := .seq c17_19 .ret
def c17_21 : AC := .seq c17_18 c17_20
def c17_22 : AC := .seq c17_0 c17_21
def ac_slices_Index_api_Ext : AC := c17_22
theorem cm56 : compF Tryz.prog [] (drawR Tryz.prog [] Tryz.f70.ntmps) [([0, 3, 7, 8], 1)] 2 Tryz.f70 = some (ac_slices_Index_api_Ext, [.t 4]) := by kernel_rfl
def U56 := J oA (J (J (J (J (J @ac_slices_Index_api_Ext.eq_1 (@mR _ _ c17_0.eq_1)) (J (@mR _ _ c17_1.eq_1) (@mR _ _ c17_2.eq_1))) (J (J (@mU _ _ c17_3.eq_1) (@mR _ _ c17_4.eq_1)) (J (@mD _ _ _ c17_5.eq_1) (@mR _ _ c17_6.eq_1)))) (J (J (J (@mU _ _ c17_7.eq_1) (@mU _ _ c17_8.eq_1)) (J (@mU _ _ c17_9.eq_1) (@mU _ _ c17_10.eq_1))) (J (J (@mU _ _ c17_11.eq_1) (@mR _ _ c17_12.eq_1)) (J (@mU _ _ c17_13.eq_1) (@mU _ _ c17_14.eq_1))))) (J (J (J (J (@mU _ _ c17_15.eq_1) (@mU _ _ c17_16.eq_1)) (J (@mU _ _ c17_17.eq_1) (@mU _ _ c17_18.eq_1))) (J (J (@mR _ _ c17_19.eq_1) (@mU _ _ c17_20.eq_1)) (J (@mU _ _ c17_21.eq_1) (@mU _ _ c17_22.eq_1)))) (J (J (J @c17l0.eq_1 @c17l1.eq_1) (J @c17l2.eq_1 @c17l4.eq_1)) (J (J @c17l5.eq_1 @c17l6.eq_1) (J @c17l12.eq_1 @c17l19.eq_1)))))

end Go.Proofs.YtdgpiobmncohjaaGreat.Aw
