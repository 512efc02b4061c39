/-
  The functions of the seat, translated to abstract code. Written by a program (wip/Gen2.lean).
-/
import Derived.Test.YtdgpiobmncohjaaGreatDoorCode
import Derived.Test.YtdgpiobmncohjaaGreatDoorProg
set_option maxRecDepth 100000
set_option linter.all false
namespace Go.Proofs.YtdgpiobmncohjaaGreatDoor.Aw
open Go.RowKit
/- scoria/root.Roots -/
def b0l0 : List AOp := [oD 2 (.mv (.k (.slc [])))]
def b0_0 : AC := .reg b0l0
def b0l1 : List AOp := [oD 3 (.nilown 6)]
def b0_1 : AC := .reg b0l1
def b0l2 : List AOp := [oD 9 (.mv (.t 0)),
oD 10 (.len (.t 9)),
oD 11 (.mv (.k (.int .i64 0)))]
def b0_2 : AC := .reg b0l2
def b0l3 : List AOp := [oD 12 (.bin .lss (.t 11) (.t 10))]
def b0_3 : AC := .reg b0l3
def b0_4 : AC := .cond (.t 12) .skip (.exit 0)
def b0l5 : List AOp := [oD 13 (.isl 6 (.t 9) (.t 11)),
oD 14 (.load (some 6) (.t 13)),
oD 5 (.alloc [(.int .i64 0), (.int .i64 0), (.int .i64 0), (.int .i64 0), (.int .i64 0), (.str [])]),
oN (.store 6 (.t 5) (.t 14))]
def b0_5 : AC := .reg b0l5
def b0l6 : List AOp := [oD 15 (.faddr 1 (.t 5)),
oD 16 (.faddr 0 (.t 15)),
oD 17 (.load none (.t 16)),
oD 18 (.bin .neq (.t 17) (.k (.int .i64 4))),
oD 19 (.mv (.t 18)),
oG 20 (.faddr 1 (.t 5)) 19 false,
oG 21 (.faddr 1 (.t 20)) 19 false,
oG 22 (.load none (.t 21)) 19 false,
oG 23 (.bin .neq (.t 22) (.k (.int .i64 0))) 19 false,
oD 24 (.pick (.t 19) (.k (.bool true)) (.t 23)),
oD 25 (.mv (.t 24)),
oG 26 (.faddr 1 (.t 5)) 25 false,
oG 27 (.faddr 2 (.t 26)) 25 false,
oG 28 (.load none (.t 27)) 25 false,
oG 29 (.bin .neq (.t 28) (.k (.int .i64 0))) 25 false,
oD 30 (.pick (.t 25) (.k (.bool true)) (.t 29))]
def b0_6 : AC := .reg b0l6
def b0_7 : AC := .cond (.t 30) (.exit 1) .skip
def b0_8 : AC := .seq b0_6 b0_7
def b0l9 : List AOp := [oD 32 (.faddr 1 (.t 5)),
oD 33 (.faddr 4 (.t 32)),
oD 34 (.load none (.t 33)),
oD 35 (.call false 16 [(.t 34)]),
oD 31 (.mv (.t 35)),
oD 36 (.ext 0 (.t 31)),
oD 37 (.ext 1 (.t 31)),
oD 38 (.ext 2 (.t 31)),
oD 6 (.mv (.t 36)),
oD 7 (.mv (.t 37)),
oD 8 (.mv (.t 38))]
def b0_9 : AC := .reg b0l9
def b0l10 : List AOp := [oD 39 (.mv (.t 8)),
oD 40 (.bin .eql (.t 39) (.k (.int .i64 0)))]
def b0_10 : AC := .reg b0l10
def b0l11 : List AOp := [oD 41 (.mv (.t 3)),
oD 42 (.load (some 6) (.t 5)),
oD 43 (.blds false [(.int .i64 0), (.int .i64 0), (.int .i64 0), (.int .i64 0), (.int .i64 0), (.str [])] 1 [(0, (.t 42))]),
oD 44 (.app 6 56 [(.int .i64 0), (.int .i64 0), (.int .i64 0), (.int .i64 0), (.int .i64 0), (.str [])] (.t 41) (.t 43)),
oD 3 (.mv (.t 44))]
def b0_11 : AC := .reg b0l11
def b0_12 : AC := .cond (.t 40) b0_11 .skip
def b0_13 : AC := .seq b0_10 b0_12
def b0_14 : AC := .seq b0_9 b0_13
def b0_15 : AC := .seq b0_8 b0_14
def b0_16 : AC := .seq b0_5 b0_15
def b0_17 : AC := .block 1 b0_16
def b0l18 : List AOp := [oD 45 (.bin .add (.t 11) (.k (.int .i64 1))),
oD 11 (.mv (.t 45))]
def b0_18 : AC := .reg b0l18
def b0_19 : AC := .seq b0_17 b0_18
def b0_20 : AC := .seq b0_4 b0_19
def b0_21 : AC := .seq b0_3 b0_20
def b0_22 : AC := .loop [3, 9, 10, 11] 1000000000 b0_21
def b0_23 : AC := .block 0 b0_22
def b0_24 : AC := .seq b0_2 b0_23
def b0l25 : List AOp := [oD 46 (.mv (.t 3)),
oD 47 (.icall 47 [(.t 46), (.k (.fn (.func 48) [] []))])]
def b0_25 : AC := .reg b0l25
def b0l26 : List AOp := [oD 48 (.mv (.t 3)),
oD 2 (.mv (.t 48))]
def b0_26 : AC := .reg b0l26
def b0_27 : AC := .seq b0_26 .ret
def b0_28 : AC := .seq b0_25 b0_27
def b0_29 : AC := .seq b0_24 b0_28
def b0_30 : AC := .seq b0_1 b0_29
def b0_31 : AC := .seq b0_0 b0_30
def ac_root_Roots : AC := b0_31
theorem comp_root_Roots : compF Tryz.prog [3, 1000047] (drawR Tryz.prog [3, 1000047] Tryz.f15.ntmps) [([3, 9, 10, 11], 1000000000)] 1 Tryz.f15 = some (ac_root_Roots, [.t 2]) := by kernel_rfl
def U_root_Roots := J oA (J (J (J (J (J (J @ac_root_Roots.eq_1 (@mR _ _ b0_0.eq_1)) (@mR _ _ b0_1.eq_1)) (J (J (@mR _ _ b0_2.eq_1) (@mR _ _ b0_3.eq_1)) (@mU _ _ b0_4.eq_1))) (J (J (J (@mR _ _ b0_5.eq_1) (@mR _ _ b0_6.eq_1)) (@mU _ _ b0_7.eq_1)) (J (J (@mU _ _ b0_8.eq_1) (@mR _ _ b0_9.eq_1)) (@mR _ _ b0_10.eq_1)))) (J (J (J (J (@mR _ _ b0_11.eq_1) (@mU _ _ b0_12.eq_1)) (@mU _ _ b0_13.eq_1)) (J (J (@mU _ _ b0_14.eq_1) (@mU _ _ b0_15.eq_1)) (@mU _ _ b0_16.eq_1))) (J (J (J (@mU _ _ b0_17.eq_1) (@mR _ _ b0_18.eq_1)) (@mU _ _ b0_19.eq_1)) (J (@mU _ _ b0_20.eq_1) (@mU _ _ b0_21.eq_1))))) (J (J (J (J (J (@mU _ _ b0_22.eq_1) (@mU _ _ b0_23.eq_1)) (@mU _ _ b0_24.eq_1)) (J (J (@mR _ _ b0_25.eq_1) (@mR _ _ b0_26.eq_1)) (@mU _ _ b0_27.eq_1))) (J (J (J (@mU _ _ b0_28.eq_1) (@mU _ _ b0_29.eq_1)) (@mU _ _ b0_30.eq_1)) (J (@mU _ _ b0_31.eq_1) @b0l0.eq_1))) (J (J (J (J @b0l1.eq_1 @b0l2.eq_1) @b0l3.eq_1) (J (J @b0l5.eq_1 @b0l6.eq_1) @b0l9.eq_1)) (J (J (J @b0l10.eq_1 @b0l11.eq_1) @b0l18.eq_1) (J @b0l25.eq_1 @b0l26.eq_1)))))

/- slices.SortStableFunc[[]scoria/api.Found,scoria/api.Found] -/
def b1l0 : List AOp := [oD 4 (.mv (.t 0)),
oD 5 (.mv (.t 0)),
oD 6 (.len (.t 5)),
oD 7 (.mv (.t 1)),
oD 8 (.icall 86 [(.t 4), (.t 6), (.t 7)])]
def b1_0 : AC := .reg b1l0
def ac_slices_SortStableFunc_api_Found : AC := b1_0
theorem comp_slices_SortStableFunc_api_Found : compF Tryz.prog [1000086] (drawR Tryz.prog [1000086] Tryz.f47.ntmps) [] 2 Tryz.f47 = some (ac_slices_SortStableFunc_api_Found, []) := by kernel_rfl
def U_slices_SortStableFunc_api_Found := J oA (J (J @ac_slices_SortStableFunc_api_Found.eq_1 (@mR _ _ b1_0.eq_1)) @b1l0.eq_1)

/- scoria/root.Roots$1 -/
def b2l0 : List AOp := [oD 2 (.box (.t 0)),
oD 3 (.box (.t 1)),
oD 4 (.mv (.k (.int .i64 0)))]
def b2_0 : AC := .reg b2l0
def b2l1 : List AOp := [oD 12 (.faddr 1 (.t 2)),
oD 13 (.faddr 4 (.t 12)),
oD 14 (.load none (.t 13)),
oD 15 (.call false 16 [(.t 14)]),
oD 11 (.mv (.t 15)),
oD 16 (.ext 0 (.t 11)),
oD 17 (.ext 1 (.t 11)),
oD 18 (.ext 2 (.t 11)),
oD 5 (.mv (.t 16)),
oD 6 (.mv (.t 17)),
oD 7 (.mv (.t 18))]
def b2_1 : AC := .reg b2l1
def b2l2 : List AOp := [oD 20 (.faddr 1 (.t 3)),
oD 21 (.faddr 4 (.t 20)),
oD 22 (.load none (.t 21)),
oD 23 (.call false 16 [(.t 22)]),
oD 19 (.mv (.t 23)),
oD 24 (.ext 0 (.t 19)),
oD 25 (.ext 1 (.t 19)),
oD 26 (.ext 2 (.t 19)),
oD 8 (.mv (.t 24)),
oD 9 (.mv (.t 25)),
oD 10 (.mv (.t 26))]
def b2_2 : AC := .reg b2l2
def b2l3 : List AOp := [oD 27 (.mv (.t 8)),
oD 28 (.mv (.t 5)),
oD 29 (.call false 50 [(.t 27), (.t 28)]),
oD 30 (.faddr 1 (.t 3)),
oD 31 (.faddr 3 (.t 30)),
oD 32 (.load none (.t 31)),
oD 33 (.faddr 1 (.t 2)),
oD 34 (.faddr 3 (.t 33)),
oD 35 (.load none (.t 34)),
oD 36 (.call false 50 [(.t 32), (.t 35)]),
oD 37 (.faddr 0 (.t 3)),
oD 38 (.load none (.t 37)),
oD 39 (.faddr 0 (.t 2)),
oD 40 (.load none (.t 39)),
oD 41 (.call false 50 [(.t 38), (.t 40)]),
oD 42 (.blds false [(.int .i64 0)] 3 [(0, (.t 29)), (1, (.t 36)), (2, (.t 41))]),
oD 43 (.call false 49 [(.t 42)]),
oD 4 (.mv (.t 43))]
def b2_3 : AC := .dreg 0 b2l3
def b2_4 : AC := .seq b2_3 .ret
def b2_5 : AC := .seq b2_2 b2_4
def b2_6 : AC := .seq b2_1 b2_5
def b2_7 : AC := .seq b2_0 b2_6
def ac_root_Roots_c1 : AC := b2_7
theorem comp_root_Roots_c1 : compF Tryz.prog [] (drawR Tryz.prog [] Tryz.f48.ntmps) [] 2 Tryz.f48 = some (ac_root_Roots_c1, [.t 4]) := by kernel_rfl
def U_root_Roots_c1 := J oA (J (J (J (J @ac_root_Roots_c1.eq_1 (@mR _ _ b2_0.eq_1)) (J (@mR _ _ b2_1.eq_1) (@mR _ _ b2_2.eq_1))) (J (J (@mD _ _ _ b2_3.eq_1) (@mU _ _ b2_4.eq_1)) (@mU _ _ b2_5.eq_1))) (J (J (J (@mU _ _ b2_6.eq_1) (@mU _ _ b2_7.eq_1)) @b2l0.eq_1) (J (J @b2l1.eq_1 @b2l2.eq_1) @b2l3.eq_1)))

/- cmp.Or[int] -/
def b3l0 : List AOp := [oD 2 (.mv (.k (.int .i64 0)))]
def b3_0 : AC := .reg b3l0
def b3l1 : List AOp := [oD 3 (.mv (.k (.int .i64 0)))]
def b3_1 : AC := .reg b3l1
def b3l2 : List AOp := [oD 6 (.mv (.t 0)),
oD 7 (.len (.t 6)),
oD 8 (.mv (.k (.int .i64 0)))]
def b3_2 : AC := .reg b3l2
def b3l3 : List AOp := [oD 9 (.bin .lss (.t 8) (.t 7))]
def b3_3 : AC := .reg b3l3
def b3_4 : AC := .cond (.t 9) .skip (.exit 0)
def b3l5 : List AOp := [oD 10 (.isl 1 (.t 6) (.t 8)),
oD 11 (.load none (.t 10)),
oD 5 (.mv (.t 11))]
def b3_5 : AC := .reg b3l5
def b3l6 : List AOp := [oD 12 (.mv (.t 5)),
oD 13 (.mv (.t 3)),
oD 14 (.bin .neq (.t 12) (.t 13))]
def b3_6 : AC := .reg b3l6
def b3l7 : List AOp := [oD 15 (.mv (.t 5)),
oD 2 (.mv (.t 15))]
def b3_7 : AC := .reg b3l7
def b3_8 : AC := .seq b3_7 .ret
def b3_9 : AC := .cond (.t 14) b3_8 .skip
def b3_10 : AC := .seq b3_6 b3_9
def b3_11 : AC := .seq b3_5 b3_10
def b3_12 : AC := .block 1 b3_11
def b3l13 : List AOp := [oD 16 (.bin .add (.t 8) (.k (.int .i64 1))),
oD 8 (.mv (.t 16))]
def b3_13 : AC := .reg b3l13
def b3_14 : AC := .seq b3_12 b3_13
def b3_15 : AC := .seq b3_4 b3_14
def b3_16 : AC := .seq b3_3 b3_15
def b3_17 : AC := .loop [3, 6, 7, 8] 0 b3_16
def b3_18 : AC := .block 0 b3_17
def b3_19 : AC := .seq b3_2 b3_18
def b3l20 : List AOp := [oD 17 (.mv (.t 3)),
oD 2 (.mv (.t 17))]
def b3_20 : AC := .reg b3l20
def b3_21 : AC := .seq b3_20 .ret
def b3_22 : AC := .seq b3_19 b3_21
def b3_23 : AC := .seq b3_1 b3_22
def b3_24 : AC := .seq b3_0 b3_23
def ac_cmp_Or_int : AC := b3_24
theorem comp_cmp_Or_int : compF Tryz.prog [] (drawR Tryz.prog [] Tryz.f49.ntmps) [([3, 6, 7, 8], 0)] 1 Tryz.f49 = some (ac_cmp_Or_int, [.t 2]) := by kernel_rfl
def U_cmp_Or_int := J oA (J (J (J (J (J (J @ac_cmp_Or_int.eq_1 (@mR _ _ b3_0.eq_1)) (@mR _ _ b3_1.eq_1)) (J (@mR _ _ b3_2.eq_1) (@mR _ _ b3_3.eq_1))) (J (J (@mU _ _ b3_4.eq_1) (@mR _ _ b3_5.eq_1)) (J (@mR _ _ b3_6.eq_1) (@mR _ _ b3_7.eq_1)))) (J (J (J (J (@mU _ _ b3_8.eq_1) (@mU _ _ b3_9.eq_1)) (@mU _ _ b3_10.eq_1)) (J (@mU _ _ b3_11.eq_1) (@mU _ _ b3_12.eq_1))) (J (J (@mR _ _ b3_13.eq_1) (@mU _ _ b3_14.eq_1)) (J (@mU _ _ b3_15.eq_1) (@mU _ _ b3_16.eq_1))))) (J (J (J (J (J (@mU _ _ b3_17.eq_1) (@mU _ _ b3_18.eq_1)) (@mU _ _ b3_19.eq_1)) (J (@mR _ _ b3_20.eq_1) (@mU _ _ b3_21.eq_1))) (J (J (@mU _ _ b3_22.eq_1) (@mU _ _ b3_23.eq_1)) (J (@mU _ _ b3_24.eq_1) @b3l0.eq_1))) (J (J (J @b3l1.eq_1 @b3l2.eq_1) (J @b3l3.eq_1 @b3l5.eq_1)) (J (J @b3l6.eq_1 @b3l7.eq_1) (J @b3l13.eq_1 @b3l20.eq_1)))))

/- slices.stableCmpFunc[scoria/api.Found] -/
def b4l0 : List AOp := [oD 6 (.mv (.k (.int .i64 20)))]
def b4_0 : AC := .reg b4l0
def b4l1 : List AOp := [oD 10 (.mv (.t 6)),
oD 7 (.mv (.k (.int .i64 0))),
oD 8 (.mv (.t 10))]
def b4_1 : AC := .reg b4l1
def b4l2 : List AOp := [oD 11 (.mv (.t 8)),
oD 12 (.mv (.t 1)),
oD 13 (.bin .leq (.t 11) (.t 12))]
def b4_2 : AC := .reg b4l2
def b4_3 : AC := .cond (.t 13) .skip (.exit 0)
def b4_4 : AC := .seq b4_2 b4_3
def b4l5 : List AOp := [oD 14 (.mv (.t 0)),
oD 15 (.mv (.t 7)),
oD 16 (.mv (.t 8)),
oD 17 (.mv (.t 2)),
oD 18 (.icall 124 [(.t 14), (.t 15), (.t 16), (.t 17)])]
def b4_5 : AC := .reg b4l5
def b4l6 : List AOp := [oD 19 (.mv (.t 8)),
oD 7 (.mv (.t 19))]
def b4_6 : AC := .reg b4l6
def b4l7 : List AOp := [oD 20 (.mv (.t 8)),
oD 21 (.mv (.t 6)),
oD 22 (.bin .add (.t 20) (.t 21)),
oD 8 (.mv (.t 22))]
def b4_7 : AC := .reg b4l7
def b4_8 : AC := .seq b4_6 b4_7
def b4_9 : AC := .seq b4_5 b4_8
def b4_10 : AC := .block 1 b4_9
def b4_11 : AC := .seq b4_4 b4_10
def b4_12 : AC := .loop [0, 1, 2, 6, 7, 8] 1000000000 b4_11
def b4_13 : AC := .block 0 b4_12
def b4l14 : List AOp := [oD 23 (.mv (.t 0)),
oD 24 (.mv (.t 7)),
oD 25 (.mv (.t 1)),
oD 26 (.mv (.t 2)),
oD 27 (.icall 124 [(.t 23), (.t 24), (.t 25), (.t 26)])]
def b4_14 : AC := .reg b4l14
def b4l15 : List AOp := [oD 28 (.mv (.t 6)),
oD 29 (.mv (.t 1)),
oD 30 (.bin .lss (.t 28) (.t 29))]
def b4_15 : AC := .reg b4l15
def b4_16 : AC := .cond (.t 30) .skip (.exit 2)
def b4_17 : AC := .seq b4_15 b4_16
def b4l18 : List AOp := [oD 31 (.mv (.t 6)),
oD 32 (.bin .mul (.k (.int .i64 2)) (.t 31)),
oD 7 (.mv (.k (.int .i64 0))),
oD 8 (.mv (.t 32))]
def b4_18 : AC := .reg b4l18
def b4l19 : List AOp := [oD 33 (.mv (.t 8)),
oD 34 (.mv (.t 1)),
oD 35 (.bin .leq (.t 33) (.t 34))]
def b4_19 : AC := .reg b4l19
def b4_20 : AC := .cond (.t 35) .skip (.exit 4)
def b4_21 : AC := .seq b4_19 b4_20
def b4l22 : List AOp := [oD 36 (.mv (.t 0)),
oD 37 (.mv (.t 7)),
oD 38 (.mv (.t 7)),
oD 39 (.mv (.t 6)),
oD 40 (.bin .add (.t 38) (.t 39)),
oD 41 (.mv (.t 8)),
oD 42 (.mv (.t 2)),
oD 43 (.icall 125 [(.t 36), (.t 37), (.t 40), (.t 41), (.t 42)])]
def b4_22 : AC := .reg b4l22
def b4l23 : List AOp := [oD 44 (.mv (.t 8)),
oD 7 (.mv (.t 44))]
def b4_23 : AC := .reg b4l23
def b4l24 : List AOp := [oD 45 (.mv (.t 8)),
oD 46 (.mv (.t 6)),
oD 47 (.bin .mul (.k (.int .i64 2)) (.t 46)),
oD 48 (.bin .add (.t 45) (.t 47)),
oD 8 (.mv (.t 48))]
def b4_24 : AC := .reg b4l24
def b4_25 : AC := .seq b4_23 b4_24
def b4_26 : AC := .seq b4_22 b4_25
def b4_27 : AC := .block 5 b4_26
def b4_28 : AC := .seq b4_21 b4_27
def b4_29 : AC := .loop [0, 1, 2, 6, 7, 8] 1000000000 b4_28
def b4_30 : AC := .block 4 b4_29
def b4l31 : List AOp := [oD 49 (.mv (.t 7)),
oD 50 (.mv (.t 6)),
oD 51 (.bin .add (.t 49) (.t 50)),
oD 9 (.mv (.t 51))]
def b4_31 : AC := .reg b4l31
def b4l32 : List AOp := [oD 52 (.mv (.t 9)),
oD 53 (.mv (.t 1)),
oD 54 (.bin .lss (.t 52) (.t 53))]
def b4_32 : AC := .reg b4l32
def b4l33 : List AOp := [oD 55 (.mv (.t 0)),
oD 56 (.mv (.t 7)),
oD 57 (.mv (.t 9)),
oD 58 (.mv (.t 1)),
oD 59 (.mv (.t 2)),
oD 60 (.icall 125 [(.t 55), (.t 56), (.t 57), (.t 58), (.t 59)])]
def b4_33 : AC := .reg b4l33
def b4_34 : AC := .cond (.t 54) b4_33 .skip
def b4_35 : AC := .seq b4_32 b4_34
def b4_36 : AC := .seq b4_31 b4_35
def b4l37 : List AOp := [oD 61 (.mv (.t 6)),
oD 62 (.bin .mul (.t 61) (.k (.int .i64 2))),
oD 6 (.mv (.t 62))]
def b4_37 : AC := .reg b4l37
def b4_38 : AC := .seq b4_36 b4_37
def b4_39 : AC := .seq b4_30 b4_38
def b4_40 : AC := .seq b4_18 b4_39
def b4_41 : AC := .block 3 b4_40
def b4_42 : AC := .seq b4_17 b4_41
def b4_43 : AC := .loop [0, 1, 2, 6] 1000000000 b4_42
def b4_44 : AC := .block 2 b4_43
def b4_45 : AC := .seq b4_14 b4_44
def b4_46 : AC := .seq b4_13 b4_45
def b4_47 : AC := .seq b4_1 b4_46
def b4_48 : AC := .seq b4_0 b4_47
def ac_slices_stableCmpFunc_api_Found : AC := b4_48
theorem comp_slices_stableCmpFunc_api_Found : compF Tryz.prog [1000124, 1000125] (drawR Tryz.prog [1000124, 1000125] Tryz.f86.ntmps) [([0, 1, 2, 6, 7, 8], 1000000000), ([0, 1, 2, 6], 1000000000), ([0, 1, 2, 6, 7, 8], 1000000000)] 3 Tryz.f86 = some (ac_slices_stableCmpFunc_api_Found, []) := by kernel_rfl
def U_slices_stableCmpFunc_api_Found := J oA (J (J (J (J (J (J (J @ac_slices_stableCmpFunc_api_Found.eq_1 (@mR _ _ b4_0.eq_1)) (@mR _ _ b4_1.eq_1)) (J (@mR _ _ b4_2.eq_1) (@mU _ _ b4_3.eq_1))) (J (J (@mU _ _ b4_4.eq_1) (@mR _ _ b4_5.eq_1)) (J (@mR _ _ b4_6.eq_1) (@mR _ _ b4_7.eq_1)))) (J (J (J (@mU _ _ b4_8.eq_1) (@mU _ _ b4_9.eq_1)) (J (@mU _ _ b4_10.eq_1) (@mU _ _ b4_11.eq_1))) (J (J (@mU _ _ b4_12.eq_1) (@mU _ _ b4_13.eq_1)) (J (@mR _ _ b4_14.eq_1) (@mR _ _ b4_15.eq_1))))) (J (J (J (J (J (@mU _ _ b4_16.eq_1) (@mU _ _ b4_17.eq_1)) (@mR _ _ b4_18.eq_1)) (J (@mR _ _ b4_19.eq_1) (@mU _ _ b4_20.eq_1))) (J (J (@mU _ _ b4_21.eq_1) (@mR _ _ b4_22.eq_1)) (J (@mR _ _ b4_23.eq_1) (@mR _ _ b4_24.eq_1)))) (J (J (J (@mU _ _ b4_25.eq_1) (@mU _ _ b4_26.eq_1)) (J (@mU _ _ b4_27.eq_1) (@mU _ _ b4_28.eq_1))) (J (J (@mU _ _ b4_29.eq_1) (@mU _ _ b4_30.eq_1)) (J (@mR _ _ b4_31.eq_1) (@mR _ _ b4_32.eq_1)))))) (J (J (J (J (J (J (@mR _ _ b4_33.eq_1) (@mU _ _ b4_34.eq_1)) (@mU _ _ b4_35.eq_1)) (J (@mU _ _ b4_36.eq_1) (@mR _ _ b4_37.eq_1))) (J (J (@mU _ _ b4_38.eq_1) (@mU _ _ b4_39.eq_1)) (J (@mU _ _ b4_40.eq_1) (@mU _ _ b4_41.eq_1)))) (J (J (J (@mU _ _ b4_42.eq_1) (@mU _ _ b4_43.eq_1)) (J (@mU _ _ b4_44.eq_1) (@mU _ _ b4_45.eq_1))) (J (J (@mU _ _ b4_46.eq_1) (@mU _ _ b4_47.eq_1)) (J (@mU _ _ b4_48.eq_1) @b4l0.eq_1)))) (J (J (J (J @b4l1.eq_1 @b4l2.eq_1) (J @b4l5.eq_1 @b4l6.eq_1)) (J (J @b4l7.eq_1 @b4l14.eq_1) (J @b4l15.eq_1 @b4l18.eq_1))) (J (J (J @b4l19.eq_1 @b4l22.eq_1) (J @b4l23.eq_1 @b4l24.eq_1)) (J (J @b4l31.eq_1 @b4l32.eq_1) (J @b4l33.eq_1 @b4l37.eq_1))))))

/- slices.insertionSortCmpFunc[scoria/api.Found] -/
def b5l0 : List AOp := [oD 10 (.mv (.t 1)),
oD 11 (.bin .add (.t 10) (.k (.int .i64 1))),
oD 8 (.mv (.t 11))]
def b5_0 : AC := .reg b5l0
def b5l1 : List AOp := [oD 12 (.mv (.t 8)),
oD 13 (.mv (.t 2)),
oD 14 (.bin .lss (.t 12) (.t 13))]
def b5_1 : AC := .reg b5l1
def b5_2 : AC := .cond (.t 14) .skip (.exit 0)
def b5_3 : AC := .seq b5_1 b5_2
def b5l4 : List AOp := [oD 17 (.mv (.t 8)),
oD 9 (.mv (.t 17))]
def b5_4 : AC := .reg b5l4
def b5l5 : List AOp := [oD 18 (.mv (.t 9)),
oD 19 (.mv (.t 1)),
oD 20 (.bin .gtr (.t 18) (.t 19)),
oD 21 (.mv (.t 20)),
oG 22 (.mv (.t 3)) 21 true,
oG 23 (.mv (.t 0)) 21 true,
oG 24 (.mv (.t 9)) 21 true,
oG 25 (.isl 6 (.t 23) (.t 24)) 21 true,
oG 26 (.load (some 6) (.t 25)) 21 true,
oG 27 (.mv (.t 0)) 21 true,
oG 28 (.mv (.t 9)) 21 true,
oG 29 (.bin .sub (.t 28) (.k (.int .i64 1))) 21 true,
oG 30 (.isl 6 (.t 27) (.t 29)) 21 true,
oG 31 (.load (some 6) (.t 30)) 21 true,
oG 32 (.callv (.t 22) [(.t 26), (.t 31)]) 21 true,
oG 33 (.bin .lss (.t 32) (.k (.int .i64 0))) 21 true,
oD 34 (.pick (.t 21) (.t 33) (.k (.bool false)))]
def b5_5 : AC := .dreg 0 b5l5
def b5_6 : AC := .cond (.t 34) .skip (.exit 2)
def b5_7 : AC := .seq b5_5 b5_6
def b5l8 : List AOp := [oD 37 (.mv (.t 0)),
oD 38 (.mv (.t 9)),
oD 39 (.mv (.t 0)),
oD 40 (.mv (.t 9)),
oD 41 (.bin .sub (.t 40) (.k (.int .i64 1))),
oD 42 (.mv (.t 0)),
oD 43 (.mv (.t 9)),
oD 44 (.bin .sub (.t 43) (.k (.int .i64 1))),
oD 45 (.isl 6 (.t 42) (.t 44)),
oD 46 (.load (some 6) (.t 45)),
oD 47 (.mv (.t 0)),
oD 48 (.mv (.t 9)),
oD 49 (.isl 6 (.t 47) (.t 48)),
oD 50 (.load (some 6) (.t 49)),
oD 51 (.isl 6 (.t 37) (.t 38)),
oN (.store 6 (.t 51) (.t 46)),
oD 52 (.isl 6 (.t 39) (.t 41)),
oN (.store 6 (.t 52) (.t 50))]
def b5_8 : AC := .dreg 0 b5l8
def b5_9 : AC := .block 3 b5_8
def b5l10 : List AOp := [oD 35 (.mv (.t 9)),
oD 36 (.bin .sub (.t 35) (.k (.int .i64 1))),
oD 9 (.mv (.t 36))]
def b5_10 : AC := .reg b5l10
def b5_11 : AC := .seq b5_9 b5_10
def b5_12 : AC := .seq b5_7 b5_11
def b5_13 : AC := .loop [0, 1, 2, 3, 8, 9] 1000000000 b5_12
def b5_14 : AC := .block 2 b5_13
def b5_15 : AC := .seq b5_4 b5_14
def b5_16 : AC := .block 1 b5_15
def b5l17 : List AOp := [oD 15 (.mv (.t 8)),
oD 16 (.bin .add (.t 15) (.k (.int .i64 1))),
oD 8 (.mv (.t 16))]
def b5_17 : AC := .reg b5l17
def b5_18 : AC := .seq b5_16 b5_17
def b5_19 : AC := .seq b5_3 b5_18
def b5_20 : AC := .loop [0, 1, 2, 3, 8] 1000000000 b5_19
def b5_21 : AC := .block 0 b5_20
def b5_22 : AC := .seq b5_0 b5_21
def ac_slices_insertionSortCmpFunc_api_Found : AC := b5_22
theorem comp_slices_insertionSortCmpFunc_api_Found : compF Tryz.prog [] (drawR Tryz.prog [] Tryz.f124.ntmps) [([0, 1, 2, 3, 8], 1000000000), ([0, 1, 2, 3, 8, 9], 1000000000)] 4 Tryz.f124 = some (ac_slices_insertionSortCmpFunc_api_Found, []) := by kernel_rfl
def U_slices_insertionSortCmpFunc_api_Found := J oA (J (J (J (J (J @ac_slices_insertionSortCmpFunc_api_Found.eq_1 (@mR _ _ b5_0.eq_1)) (J (@mR _ _ b5_1.eq_1) (@mU _ _ b5_2.eq_1))) (J (J (@mU _ _ b5_3.eq_1) (@mR _ _ b5_4.eq_1)) (J (@mD _ _ _ b5_5.eq_1) (@mU _ _ b5_6.eq_1)))) (J (J (J (@mU _ _ b5_7.eq_1) (@mD _ _ _ b5_8.eq_1)) (J (@mU _ _ b5_9.eq_1) (@mR _ _ b5_10.eq_1))) (J (J (@mU _ _ b5_11.eq_1) (@mU _ _ b5_12.eq_1)) (J (@mU _ _ b5_13.eq_1) (@mU _ _ b5_14.eq_1))))) (J (J (J (J (@mU _ _ b5_15.eq_1) (@mU _ _ b5_16.eq_1)) (J (@mR _ _ b5_17.eq_1) (@mU _ _ b5_18.eq_1))) (J (J (@mU _ _ b5_19.eq_1) (@mU _ _ b5_20.eq_1)) (J (@mU _ _ b5_21.eq_1) (@mU _ _ b5_22.eq_1)))) (J (J (J @b5l0.eq_1 @b5l1.eq_1) (J @b5l4.eq_1 @b5l5.eq_1)) (J (J @b5l8.eq_1 @b5l10.eq_1) @b5l17.eq_1))))

end Go.Proofs.YtdgpiobmncohjaaGreatDoor.Aw
