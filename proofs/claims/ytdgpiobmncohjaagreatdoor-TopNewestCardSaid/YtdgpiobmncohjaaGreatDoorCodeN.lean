/-
  The functions of the seat, translated to abstract code. Written by a program (wip/Gen2.lean).; The functions of the seat, translated to abstract code. Written by a program (wip/Gen2.lean).; The functions of the seat, translated to abstract code. Written by a program (wip/Gen2.lean).
-/
import Derived.Test.YtdgpiobmncohjaaGreatDoorCode
import Derived.Test.YtdgpiobmncohjaaGreatDoorProg
set_option maxRecDepth 100000
set_option linter.all false
namespace Go.Proofs.YtdgpiobmncohjaaGreatDoor.Aw
open Go.RowKit
/- scoria/nand.New -/
def c0l0 : List AOp := [oD 1 (.box (.t 0)),
oD 2 (.mv (.k .nilp)),
oD 3 (.mv (.k .nili))]
def c0_0 : AC := .reg c0l0
def c0l1 : List AOp := [oD 4 (.faddr 0 (.t 1)),
oD 5 (.load none (.t 4)),
oD 6 (.call false 28 [(.t 5), (.k (.int .i64 16)), (.k (.int .i64 64))]),
oD 7 (.un .not (.t 6)),
oD 8 (.mv (.t 7)),
oG 9 (.faddr 1 (.t 1)) 8 false,
oG 10 (.load none (.t 9)) 8 false,
oG 11 (.call false 28 [(.t 10), (.k (.int .i64 8)), (.k (.int .i64 32))]) 8 false,
oG 12 (.un .not (.t 11)) 8 false,
oD 13 (.pick (.t 8) (.k (.bool true)) (.t 12))]
def c0_1 : AC := .reg c0l1
def c0l2 : List AOp := [oD 14 (.faddr 0 (.t 1)),
oD 15 (.load none (.t 14)),
oD 16 (.mki 36 (.k (.int .i64 1))),
oD 17 (.icall 29 [(.k (.str [110, 101, 119])), (.t 15), (.t 16)]),
oD 2 (.mv (.k .nilp)),
oD 3 (.mv (.t 17))]
def c0_2 : AC := .reg c0l2
def c0_3 : AC := .seq c0_2 .ret
def c0_4 : AC := .cond (.t 13) c0_3 .skip
def c0_5 : AC := .seq c0_1 c0_4
def c0l6 : List AOp := [⟨(some 18), .load (some 2) (.t 1), none, none, [0, 1], none⟩,
oD 19 (.faddr 0 (.t 1)),
  ⟨(some 20), .load none (.t 19), none, none, [0, 1], none⟩,
  ⟨(some 21), .mks true [.nils, (.int .i64 0), (.bool false)] 40 (.t 20) (.t 20), none, (some 0), [1], none⟩,
oD 22 (.build [(.int .i64 0), (.int .i64 0), .nils, (.int .i64 0), .nils, (.bool false)] [(0, 2, (.t 18)), (2, 1, (.t 21))]),
  ⟨(some 23), .box (.t 22), none, (some 1), [], none⟩,
oD 2 (.mv (.t 23)),
oD 3 (.mv (.k .nili))]
def c0_6 : AC := .dreg 2 c0l6
def c0_7 : AC := .seq c0_6 .ret
def c0_8 : AC := .seq c0_5 c0_7
def c0_9 : AC := .seq c0_0 c0_8
def ac_nand_New : AC := c0_9
theorem comp_nand_New : compF Tryz.prog [21, 22, 1000029] (drawR Tryz.prog [21, 22, 1000029] Tryz.f5.ntmps) [] 1 Tryz.f5 = some (ac_nand_New, [.t 2, .t 3]) := by kernel_rfl
def U_nand_New := J oA (J (J (J (J @ac_nand_New.eq_1 (@mR _ _ c0_0.eq_1)) (J (@mR _ _ c0_1.eq_1) (@mR _ _ c0_2.eq_1))) (J (J (@mU _ _ c0_3.eq_1) (@mU _ _ c0_4.eq_1)) (J (@mU _ _ c0_5.eq_1) (@mD _ _ _ c0_6.eq_1)))) (J (J (J (@mU _ _ c0_7.eq_1) (@mU _ _ c0_8.eq_1)) (J (@mU _ _ c0_9.eq_1) @c0l0.eq_1)) (J (J @c0l1.eq_1 @c0l2.eq_1) @c0l6.eq_1)))

/- scoria/scoriatop.plain -/
def c1l0 : List AOp := [oD 0 (.alloc [(.int .i64 0), (.int .i64 0)])]
def c1_0 : AC := .reg c1l0
def c1l1 : List AOp := [oD 1 (.build [(.int .i64 0), (.int .i64 0)] [(0, 1, (.k (.int .i64 16))), (1, 1, (.k (.int .i64 8)))]),
oN (.store 2 (.t 0) (.t 1))]
def c1_1 : AC := .reg c1l1
def c1_2 : AC := .seq c1_1 .ret
def c1_3 : AC := .seq c1_0 c1_2
def ac_top_plain : AC := c1_3
theorem comp_top_plain : compF Tryz.prog [] (drawR Tryz.prog [] Tryz.f6.ntmps) [] 0 Tryz.f6 = some (ac_top_plain, [.c 0 (some 2)]) := by kernel_rfl
def U_top_plain := J oA (J (J (J @ac_top_plain.eq_1 (@mR _ _ c1_0.eq_1)) (J (@mR _ _ c1_1.eq_1) (@mU _ _ c1_2.eq_1))) (J (J (@mU _ _ c1_3.eq_1) @c1l0.eq_1) @c1l1.eq_1))

/- (*scoria/nand.Nand).Plan -/
def c2l0 : List AOp := [oD 6 (.mv (.t 0)),
oD 7 (.isn .p false (.t 6))]
def c2_0 : AC := .reg c2l0
def c2_1 : AC := .cond (.t 7) .ret .skip
def c2_2 : AC := .seq c2_0 c2_1
def c2l3 : List AOp := [oD 8 (.mv (.t 0)),
oD 9 (.nilck (.t 8)),
oD 10 (.faddr 4 (.t 9)),
oN (.store 1 (.t 10) (.k .nils))]
def c2_3 : AC := .reg c2l3
def c2l4 : List AOp := [oD 11 (.mv (.t 1)),
oD 12 (.len (.t 11)),
oD 13 (.mv (.k (.int .i64 0)))]
def c2_4 : AC := .reg c2l4
def c2l5 : List AOp := [oD 14 (.bin .lss (.t 13) (.t 12))]
def c2_5 : AC := .reg c2l5
def c2_6 : AC := .cond (.t 14) .skip (.exit 0)
def c2l7 : List AOp := [oD 15 (.isl 4 (.t 11) (.t 13)),
oD 16 (.load (some 4) (.t 15)),
oD 5 (.alloc [(.int .i64 0), (.int .i64 0), (.int .i64 0), (.str [])]),
oN (.store 4 (.t 5) (.t 16))]
def c2_7 : AC := .reg c2l7
def c2l8 : List AOp := [oD 17 (.faddr 0 (.t 5)),
oD 18 (.load none (.t 17)),
oD 19 (.bin .geq (.t 18) (.k (.int .i64 1))),
oD 20 (.mv (.t 19)),
oG 21 (.faddr 0 (.t 5)) 20 true,
oG 22 (.load none (.t 21)) 20 true,
oG 23 (.bin .leq (.t 22) (.k (.int .i64 1099511627776))) 20 true,
oD 24 (.pick (.t 20) (.t 23) (.k (.bool false)))]
def c2_8 : AC := .reg c2l8
def c2l9 : List AOp := [oD 25 (.faddr 0 (.t 5)),
oD 26 (.load none (.t 25)),
oD 27 (.mv (.t 0)),
oD 28 (.nilck (.t 27)),
oD 29 (.faddr 3 (.t 28)),
oD 30 (.load none (.t 29)),
oD 31 (.bin .add (.t 26) (.t 30)),
oD 32 (.faddr 0 (.t 5)),
oN (.store 1 (.t 32) (.t 31))]
def c2_9 : AC := .dreg 0 c2l9
def c2l10 : List AOp := [oD 33 (.mv (.t 0)),
oD 34 (.mv (.t 0)),
oD 35 (.nilck (.t 34)),
oD 36 (.faddr 4 (.t 35)),
  ⟨(some 37), .load none (.t 36), none, none, [0], none⟩,
  ⟨(some 38), .load (some 4) (.t 5), none, none, [0], none⟩,
  ⟨(some 39), .blds false [(.int .i64 0), (.int .i64 0), (.int .i64 0), (.str [])] 1 [(0, (.t 38))], none, none, [0], none⟩,
  ⟨(some 40), .app 4 40 [(.int .i64 0), (.int .i64 0), (.int .i64 0), (.str [])] (.t 37) (.t 39), none, (some 0), [], none⟩,
oD 41 (.nilck (.t 33)),
oD 42 (.faddr 4 (.t 41)),
oN (.store 1 (.t 42) (.t 40))]
def c2_10 : AC := .dreg 1 c2l10
def c2_11 : AC := .seq c2_9 c2_10
def c2_12 : AC := .cond (.t 24) c2_11 .skip
def c2_13 : AC := .seq c2_8 c2_12
def c2_14 : AC := .seq c2_7 c2_13
def c2_15 : AC := .block 1 c2_14
def c2l16 : List AOp := [oD 43 (.bin .add (.t 13) (.k (.int .i64 1))),
oD 13 (.mv (.t 43))]
def c2_16 : AC := .reg c2l16
def c2_17 : AC := .seq c2_15 c2_16
def c2_18 : AC := .seq c2_6 c2_17
def c2_19 : AC := .seq c2_5 c2_18
def c2_20 : AC := .loop [0, 11, 12, 13] 1000000000 c2_19
def c2_21 : AC := .block 0 c2_20
def c2_22 : AC := .seq c2_4 c2_21
def c2_23 : AC := .seq c2_3 c2_22
def c2_24 : AC := .seq c2_2 c2_23
def ac_nand_Nand_Plan : AC := c2_24
theorem comp_nand_Nand_Plan : compF Tryz.prog [] (drawR Tryz.prog [] Tryz.f12.ntmps) [([0, 11, 12, 13], 1000000000)] 2 Tryz.f12 = some (ac_nand_Nand_Plan, []) := by kernel_rfl
def U_nand_Nand_Plan := J oA (J (J (J (J (J (J @ac_nand_Nand_Plan.eq_1 (@mR _ _ c2_0.eq_1)) (@mU _ _ c2_1.eq_1)) (J (@mU _ _ c2_2.eq_1) (@mR _ _ c2_3.eq_1))) (J (J (@mR _ _ c2_4.eq_1) (@mR _ _ c2_5.eq_1)) (J (@mU _ _ c2_6.eq_1) (@mR _ _ c2_7.eq_1)))) (J (J (J (J (@mR _ _ c2_8.eq_1) (@mD _ _ _ c2_9.eq_1)) (@mD _ _ _ c2_10.eq_1)) (J (@mU _ _ c2_11.eq_1) (@mU _ _ c2_12.eq_1))) (J (J (@mU _ _ c2_13.eq_1) (@mU _ _ c2_14.eq_1)) (J (@mU _ _ c2_15.eq_1) (@mR _ _ c2_16.eq_1))))) (J (J (J (J (J (@mU _ _ c2_17.eq_1) (@mU _ _ c2_18.eq_1)) (@mU _ _ c2_19.eq_1)) (J (@mU _ _ c2_20.eq_1) (@mU _ _ c2_21.eq_1))) (J (J (@mU _ _ c2_22.eq_1) (@mU _ _ c2_23.eq_1)) (J (@mU _ _ c2_24.eq_1) @c2l0.eq_1))) (J (J (J @c2l3.eq_1 @c2l4.eq_1) (J @c2l5.eq_1 @c2l7.eq_1)) (J (J @c2l8.eq_1 @c2l9.eq_1) (J @c2l10.eq_1 @c2l16.eq_1)))))

/- (*scoria/nand.Nand).Up -/
def c3l0 : List AOp := [oD 2 (.mv (.t 0)),
oD 3 (.isn .p true (.t 2))]
def c3_0 : AC := .reg c3l0
def c3l1 : List AOp := [oD 4 (.mv (.t 0)),
oD 5 (.mv (.t 0)),
oD 6 (.nilck (.t 4)),
oD 7 (.faddr 5 (.t 6)),
oN (.store 1 (.t 7) (.k (.bool false))),
oD 8 (.nilck (.t 5)),
oD 9 (.faddr 4 (.t 8)),
oN (.store 1 (.t 9) (.k .nils))]
def c3_1 : AC := .reg c3l1
def c3_2 : AC := .cond (.t 3) c3_1 .skip
def c3_3 : AC := .seq c3_0 c3_2
def ac_nand_Nand_Up : AC := c3_3
theorem comp_nand_Nand_Up : compF Tryz.prog [] (drawR Tryz.prog [] Tryz.f13.ntmps) [] 1 Tryz.f13 = some (ac_nand_Nand_Up, []) := by kernel_rfl
def U_nand_Nand_Up := J oA (J (J (J @ac_nand_Nand_Up.eq_1 (@mR _ _ c3_0.eq_1)) (J (@mR _ _ c3_1.eq_1) (@mU _ _ c3_2.eq_1))) (J (J (@mU _ _ c3_3.eq_1) @c3l0.eq_1) @c3l1.eq_1))

/- scoria/nand.in -/
def c4l0 : List AOp := [oD 6 (.mv (.k (.bool false)))]
def c4_0 : AC := .reg c4l0
def c4l1 : List AOp := [oD 7 (.mv (.t 0)),
oD 8 (.mv (.t 1)),
oD 9 (.bin .geq (.t 7) (.t 8)),
oD 10 (.mv (.t 9)),
oG 11 (.mv (.t 0)) 10 true,
oG 12 (.mv (.t 2)) 10 true,
oG 13 (.bin .leq (.t 11) (.t 12)) 10 true,
oD 14 (.pick (.t 10) (.t 13) (.k (.bool false))),
oD 6 (.mv (.t 14))]
def c4_1 : AC := .reg c4l1
def c4_2 : AC := .seq c4_1 .ret
def c4_3 : AC := .seq c4_0 c4_2
def ac_nand_in : AC := c4_3
theorem comp_nand_in : compF Tryz.prog [] (drawR Tryz.prog [] Tryz.f28.ntmps) [] 3 Tryz.f28 = some (ac_nand_in, [.t 6]) := by kernel_rfl
def U_nand_in := J oA (J (J (J @ac_nand_in.eq_1 (@mR _ _ c4_0.eq_1)) (J (@mR _ _ c4_1.eq_1) (@mU _ _ c4_2.eq_1))) (J (J (@mU _ _ c4_3.eq_1) @c4l0.eq_1) @c4l1.eq_1))

/- scoria/fault.Wrap -/
def c5l0 : List AOp := [oD 6 (.mv (.k .nili))]
def c5_0 : AC := .reg c5l0
def c5l1 : List AOp := [oD 7 (.mv (.t 2)),
oD 8 (.isn .i false (.t 7))]
def c5_1 : AC := .reg c5l1
def c5l2 : List AOp := [oD 6 (.mv (.k .nili))]
def c5_2 : AC := .reg c5l2
def c5_3 : AC := .seq c5_2 .ret
def c5_4 : AC := .cond (.t 8) c5_3 .skip
def c5_5 : AC := .seq c5_1 c5_4
def c5l6 : List AOp := [oD 9 (.mv (.t 0)),
oD 10 (.mv (.t 1)),
oD 11 (.build [(.str []), (.int .i64 0)] [(0, 1, (.t 9)), (1, 1, (.t 10))]),
oD 12 (.mv (.t 2)),
oD 13 (.build [(.str []), (.int .i64 0), .nili] [(0, 2, (.t 11)), (2, 1, (.t 12))]),
oD 14 (.box (.t 13)),
oD 15 (.mki 144 (.t 14)),
oD 6 (.mv (.t 15))]
def c5_6 : AC := .reg c5l6
def c5_7 : AC := .seq c5_6 .ret
def c5_8 : AC := .seq c5_5 c5_7
def c5_9 : AC := .seq c5_0 c5_8
def ac_fault_Wrap : AC := c5_9
theorem comp_fault_Wrap : compF Tryz.prog [] (drawR Tryz.prog [] Tryz.f29.ntmps) [] 3 Tryz.f29 = some (ac_fault_Wrap, [.t 6]) := by kernel_rfl
def U_fault_Wrap := J oA (J (J (J (J @ac_fault_Wrap.eq_1 (@mR _ _ c5_0.eq_1)) (J (@mR _ _ c5_1.eq_1) (@mR _ _ c5_2.eq_1))) (J (J (@mU _ _ c5_3.eq_1) (@mU _ _ c5_4.eq_1)) (J (@mU _ _ c5_5.eq_1) (@mR _ _ c5_6.eq_1)))) (J (J (J (@mU _ _ c5_7.eq_1) (@mU _ _ c5_8.eq_1)) (J (@mU _ _ c5_9.eq_1) @c5l0.eq_1)) (J (J @c5l1.eq_1 @c5l2.eq_1) @c5l6.eq_1)))

/- (*scoria/nand.Nand).Program -/
def c6l0 : List AOp := [oD 6 (.mv (.k .nili))]
def c6_0 : AC := .reg c6l0
def c6l1 : List AOp := [oD 7 (.mv (.t 1)),
oD 8 (.mv (.t 0)),
oD 9 (.mv (.t 1)),
oD 10 (.mv (.t 2)),
oD 11 (.icall 66 [(.t 8), (.t 9), (.t 10)]),
oD 12 (.icall 29 [(.k (.str [112, 114, 111, 103, 114, 97, 109])), (.t 7), (.t 11)]),
oD 6 (.mv (.t 12))]
def c6_1 : AC := .reg c6l1
def c6_2 : AC := .seq c6_1 .ret
def c6_3 : AC := .seq c6_0 c6_2
def ac_nand_Nand_Program : AC := c6_3
theorem comp_nand_Nand_Program : compF Tryz.prog [1000066, 1000029] (drawR Tryz.prog [1000066, 1000029] Tryz.f31.ntmps) [] 3 Tryz.f31 = some (ac_nand_Nand_Program, [.t 6]) := by kernel_rfl
def U_nand_Nand_Program := J oA (J (J (J @ac_nand_Nand_Program.eq_1 (@mR _ _ c6_0.eq_1)) (J (@mR _ _ c6_1.eq_1) (@mU _ _ c6_2.eq_1))) (J (J (@mU _ _ c6_3.eq_1) @c6l0.eq_1) @c6l1.eq_1))

/- (*scoria/nand.Nand).Read -/
def c7l0 : List AOp := [oD 4 (.mv (.k (.str []))),
oD 5 (.mv (.k .nili))]
def c7_0 : AC := .reg c7l0
def c7l1 : List AOp := [oD 9 (.mv (.t 0)),
oD 10 (.mv (.t 1)),
oD 11 (.icall 67 [(.t 9), (.t 10)]),
oD 8 (.mv (.t 11)),
oD 12 (.ext 0 (.t 8)),
oD 13 (.ext 1 (.t 8)),
oD 6 (.mv (.t 12)),
oD 7 (.mv (.t 13))]
def c7_1 : AC := .reg c7l1
def c7l2 : List AOp := [oD 14 (.mv (.t 6)),
oD 15 (.mv (.t 1)),
oD 16 (.mv (.t 7)),
oD 17 (.icall 29 [(.k (.str [114, 101, 97, 100])), (.t 15), (.t 16)]),
oD 4 (.mv (.t 14)),
oD 5 (.mv (.t 17))]
def c7_2 : AC := .reg c7l2
def c7_3 : AC := .seq c7_2 .ret
def c7_4 : AC := .seq c7_1 c7_3
def c7_5 : AC := .seq c7_0 c7_4
def ac_nand_Nand_Read : AC := c7_5
theorem comp_nand_Nand_Read : compF Tryz.prog [1000067, 1000029] (drawR Tryz.prog [1000067, 1000029] Tryz.f32.ntmps) [] 2 Tryz.f32 = some (ac_nand_Nand_Read, [.t 4, .t 5]) := by kernel_rfl
def U_nand_Nand_Read := J oA (J (J (J (J @ac_nand_Nand_Read.eq_1 (@mR _ _ c7_0.eq_1)) (@mR _ _ c7_1.eq_1)) (J (@mR _ _ c7_2.eq_1) (@mU _ _ c7_3.eq_1))) (J (J (J (@mU _ _ c7_4.eq_1) (@mU _ _ c7_5.eq_1)) @c7l0.eq_1) (J @c7l1.eq_1 @c7l2.eq_1)))

/- (*scoria/nand.Nand).Down -/
def c8l0 : List AOp := [oD 2 (.mv (.k (.bool false)))]
def c8_0 : AC := .reg c8l0
def c8l1 : List AOp := [oD 3 (.mv (.t 0)),
oD 4 (.isn .p false (.t 3)),
oD 5 (.mv (.t 4)),
oG 6 (.mv (.t 0)) 5 false,
oG 7 (.nilck (.t 6)) 5 false,
oG 8 (.faddr 5 (.t 7)) 5 false,
oG 9 (.load none (.t 8)) 5 false,
oD 10 (.pick (.t 5) (.k (.bool true)) (.t 9)),
oD 2 (.mv (.t 10))]
def c8_1 : AC := .reg c8l1
def c8_2 : AC := .seq c8_1 .ret
def c8_3 : AC := .seq c8_0 c8_2
def ac_nand_Nand_Down : AC := c8_3
theorem comp_nand_Nand_Down : compF Tryz.prog [] (drawR Tryz.prog [] Tryz.f37.ntmps) [] 1 Tryz.f37 = some (ac_nand_Nand_Down, [.t 2]) := by kernel_rfl
def U_nand_Nand_Down := J oA (J (J (J @ac_nand_Nand_Down.eq_1 (@mR _ _ c8_0.eq_1)) (J (@mR _ _ c8_1.eq_1) (@mU _ _ c8_2.eq_1))) (J (J (@mU _ _ c8_3.eq_1) @c8l0.eq_1) @c8l1.eq_1))

/- (*scoria/nand.Nand).Geometry -/
def c9l0 : List AOp := [oD 2 (.alloc [(.int .i64 0), (.int .i64 0)])]
def c9_0 : AC := .reg c9l0
def c9l1 : List AOp := [oD 3 (.mv (.t 0)),
oD 4 (.isn .p false (.t 3))]
def c9_1 : AC := .reg c9l1
def c9l2 : List AOp := [oD 5 (.build [(.int .i64 0), (.int .i64 0)] []),
oN (.store 2 (.t 2) (.t 5))]
def c9_2 : AC := .reg c9l2
def c9_3 : AC := .seq c9_2 .ret
def c9_4 : AC := .cond (.t 4) c9_3 .skip
def c9_5 : AC := .seq c9_1 c9_4
def c9l6 : List AOp := [oD 6 (.mv (.t 0)),
oD 7 (.nilck (.t 6)),
oD 8 (.faddr 0 (.t 7)),
oD 9 (.load (some 2) (.t 8)),
oN (.store 2 (.t 2) (.t 9))]
def c9_6 : AC := .reg c9l6
def c9_7 : AC := .seq c9_6 .ret
def c9_8 : AC := .seq c9_5 c9_7
def c9_9 : AC := .seq c9_0 c9_8
def ac_nand_Nand_Geometry : AC := c9_9
theorem comp_nand_Nand_Geometry : compF Tryz.prog [] (drawR Tryz.prog [] Tryz.f38.ntmps) [] 1 Tryz.f38 = some (ac_nand_Nand_Geometry, [.c 2 (some 2)]) := by kernel_rfl
def U_nand_Nand_Geometry := J oA (J (J (J (J @ac_nand_Nand_Geometry.eq_1 (@mR _ _ c9_0.eq_1)) (J (@mR _ _ c9_1.eq_1) (@mR _ _ c9_2.eq_1))) (J (J (@mU _ _ c9_3.eq_1) (@mU _ _ c9_4.eq_1)) (J (@mU _ _ c9_5.eq_1) (@mR _ _ c9_6.eq_1)))) (J (J (J (@mU _ _ c9_7.eq_1) (@mU _ _ c9_8.eq_1)) (J (@mU _ _ c9_9.eq_1) @c9l0.eq_1)) (J (J @c9l1.eq_1 @c9l2.eq_1) @c9l6.eq_1)))

/- (*scoria/nand.Nand).program -/
def c10l0 : List AOp := [oD 3 (.box (.t 0)),
oD 4 (.box (.t 1)),
oD 5 (.box (.t 2)),
oD 6 (.mv (.k .nili))]
def c10_0 : AC := .reg c10l0
def c10l1 : List AOp := [oD 10 (.load none (.t 3)),
oD 11 (.mkfn (.func 110) [] [(.t 3), (.t 4), (.t 5)]),
oD 12 (.icall 109 [(.t 10), (.t 11)]),
oD 7 (.mv (.t 12))]
def c10_1 : AC := .reg c10l1
def c10l2 : List AOp := [oD 13 (.mv (.t 7)),
oD 14 (.isn .i true (.t 13))]
def c10_2 : AC := .reg c10l2
def c10l3 : List AOp := [oD 15 (.mv (.t 7)),
oD 6 (.mv (.t 15))]
def c10_3 : AC := .reg c10l3
def c10_4 : AC := .seq c10_3 .ret
def c10_5 : AC := .cond (.t 14) c10_4 .skip
def c10_6 : AC := .seq c10_2 c10_5
def c10_7 : AC := .seq c10_1 c10_6
def c10l8 : List AOp := [oD 16 (.load none (.t 3)),
oD 17 (.nilck (.t 16)),
oD 18 (.faddr 2 (.t 17)),
oD 19 (.load none (.t 18)),
oD 20 (.load none (.t 4)),
oD 21 (.load none (.t 3)),
oD 22 (.nilck (.t 21)),
oD 23 (.faddr 0 (.t 22)),
oD 24 (.faddr 1 (.t 23)),
oD 25 (.load none (.t 24)),
oD 26 (.bin .quo (.t 20) (.t 25)),
oD 27 (.isl 3 (.t 19) (.t 26)),
oD 8 (.mv (.t 27))]
def c10_8 : AC := .dreg 0 c10l8
def c10l9 : List AOp := [oD 29 (.mv (.t 8)),
oD 30 (.nilck (.t 29)),
oD 31 (.faddr 2 (.t 30)),
oD 32 (.load none (.t 31)),
oD 28 (.mv (.t 32))]
def c10_9 : AC := .reg c10l9
def c10l10 : List AOp := [oD 33 (.mki 36 (.k (.int .i64 41))),
oD 6 (.mv (.t 33))]
def c10_10 : AC := .reg c10l10
def c10_11 : AC := .seq c10_10 .ret
def c10l12 : List AOp := [oD 35 (.load none (.t 4)),
oD 36 (.load none (.t 3)),
oD 37 (.nilck (.t 36)),
oD 38 (.faddr 0 (.t 37)),
oD 39 (.faddr 1 (.t 38)),
oD 40 (.load none (.t 39)),
oD 41 (.bin .rem (.t 35) (.t 40)),
oD 42 (.mv (.t 8)),
oD 43 (.nilck (.t 42)),
oD 44 (.faddr 0 (.t 43)),
oD 45 (.load none (.t 44)),
oD 46 (.len (.t 45)),
oD 47 (.bin .neq (.t 41) (.t 46)),
oD 34 (.mv (.t 47))]
def c10_12 : AC := .dreg 0 c10l12
def c10l13 : List AOp := [oD 48 (.mki 36 (.k (.int .i64 40))),
oD 6 (.mv (.t 48))]
def c10_13 : AC := .reg c10l13
def c10_14 : AC := .seq c10_13 .ret
def c10_15 : AC := .cond (.t 34) c10_14 .skip
def c10_16 : AC := .seq c10_12 c10_15
def c10_17 : AC := .cond (.t 28) c10_11 c10_16
def c10_18 : AC := .seq c10_9 c10_17
def c10_19 : AC := .block 0 c10_18
def c10l20 : List AOp := [oD 49 (.load none (.t 3)),
oD 50 (.icall 112 [(.t 49)]),
oD 9 (.alloc [(.int .i64 0), (.int .i64 0), (.int .i64 0), (.str [])]),
oN (.store 4 (.t 9) (.t 50))]
def c10_20 : AC := .reg c10l20
def c10l21 : List AOp := [oD 51 (.faddr 1 (.t 9)),
oD 52 (.load none (.t 51))]
def c10_21 : AC := .reg c10l21
def c10l22 : List AOp := [oD 54 (.bin .eql (.t 52) (.k (.int .i64 1))),
oD 53 (.mv (.t 54))]
def c10_22 : AC := .reg c10l22
def c10l23 : List AOp := [oD 55 (.mv (.t 8)),
oD 56 (.mv (.t 8)),
oD 57 (.nilck (.t 56)),
oD 58 (.faddr 0 (.t 57)),
  ⟨(some 59), .load none (.t 58), none, none, [0], none⟩,
  ⟨(some 60), .load (some 4) (.t 9), none, none, [0], none⟩,
  ⟨(some 61), .load none (.t 5), none, none, [0], none⟩,
  ⟨(some 62), .call false 113 [(.t 60), (.t 61)], none, none, [0], none⟩,
  ⟨(some 63), .blds false [(.str [])] 1 [(0, (.t 62))], none, none, [0], none⟩,
  ⟨(some 64), .app 1 16 [(.str [])] (.t 59) (.t 63), none, (some 0), [], none⟩,
oD 65 (.nilck (.t 55)),
oD 66 (.faddr 0 (.t 65)),
oN (.store 1 (.t 66) (.t 64))]
def c10_23 : AC := .dreg 1 c10l23
def c10l24 : List AOp := [oD 67 (.load none (.t 3)),
oD 68 (.nilck (.t 67)),
oD 69 (.faddr 5 (.t 68)),
oN (.store 1 (.t 69) (.k (.bool true)))]
def c10_24 : AC := .reg c10l24
def c10l25 : List AOp := [oD 70 (.mki 36 (.k (.int .i64 9))),
oD 6 (.mv (.t 70))]
def c10_25 : AC := .reg c10l25
def c10_26 : AC := .seq c10_25 .ret
def c10_27 : AC := .seq c10_24 c10_26
def c10_28 : AC := .seq c10_23 c10_27
def c10l29 : List AOp := [oD 72 (.bin .eql (.t 52) (.k (.int .i64 2))),
oD 71 (.mv (.t 72))]
def c10_29 : AC := .reg c10l29
def c10l30 : List AOp := [oD 73 (.mv (.t 8)),
oD 74 (.mv (.t 8)),
oD 75 (.nilck (.t 74)),
oD 76 (.faddr 0 (.t 75)),
  ⟨(some 77), .load none (.t 76), none, none, [0], none⟩,
  ⟨(some 78), .load (some 4) (.t 9), none, none, [0], none⟩,
  ⟨(some 79), .load none (.t 5), none, none, [0], none⟩,
  ⟨(some 80), .call false 113 [(.t 78), (.t 79)], none, none, [0], none⟩,
  ⟨(some 81), .blds false [(.str [])] 1 [(0, (.t 80))], none, none, [0], none⟩,
  ⟨(some 82), .app 1 16 [(.str [])] (.t 77) (.t 81), none, (some 0), [], none⟩,
oD 83 (.nilck (.t 73)),
oD 84 (.faddr 0 (.t 83)),
oN (.store 1 (.t 84) (.t 82))]
def c10_30 : AC := .dreg 1 c10l30
def c10l31 : List AOp := [oD 85 (.mv (.t 8)),
oD 86 (.nilck (.t 85)),
oD 87 (.faddr 2 (.t 86)),
oN (.store 1 (.t 87) (.k (.bool true)))]
def c10_31 : AC := .reg c10l31
def c10l32 : List AOp := [oD 88 (.mki 36 (.k (.int .i64 41))),
oD 6 (.mv (.t 88))]
def c10_32 : AC := .reg c10l32
def c10_33 : AC := .seq c10_32 .ret
def c10_34 : AC := .seq c10_31 c10_33
def c10_35 : AC := .seq c10_30 c10_34
def c10_36 : AC := .cond (.t 71) c10_35 .skip
def c10_37 : AC := .seq c10_29 c10_36
def c10_38 : AC := .cond (.t 53) c10_28 c10_37
def c10_39 : AC := .seq c10_22 c10_38
def c10_40 : AC := .block 1 c10_39
def c10_41 : AC := .seq c10_21 c10_40
def c10l42 : List AOp := [oD 89 (.mv (.t 8)),
oD 90 (.mv (.t 8)),
oD 91 (.nilck (.t 90)),
oD 92 (.faddr 0 (.t 91)),
  ⟨(some 93), .load none (.t 92), none, none, [0], none⟩,
  ⟨(some 94), .load none (.t 5), none, none, [0], none⟩,
  ⟨(some 95), .blds false [(.str [])] 1 [(0, (.t 94))], none, none, [0], none⟩,
  ⟨(some 96), .app 1 16 [(.str [])] (.t 93) (.t 95), none, (some 0), [], none⟩,
oD 97 (.nilck (.t 89)),
oD 98 (.faddr 0 (.t 97)),
oN (.store 1 (.t 98) (.t 96))]
def c10_42 : AC := .dreg 1 c10l42
def c10l43 : List AOp := [oD 6 (.mv (.k .nili))]
def c10_43 : AC := .reg c10l43
def c10_44 : AC := .seq c10_43 .ret
def c10_45 : AC := .seq c10_42 c10_44
def c10_46 : AC := .seq c10_41 c10_45
def c10_47 : AC := .seq c10_20 c10_46
def c10_48 : AC := .seq c10_19 c10_47
def c10_49 : AC := .seq c10_8 c10_48
def c10_50 : AC := .seq c10_7 c10_49
def c10_51 : AC := .seq c10_0 c10_50
def ac_nand_Nand_program : AC := c10_51
theorem comp_nand_Nand_program : compF Tryz.prog [1000109, 1000112] (drawR Tryz.prog [1000109, 1000112] Tryz.f66.ntmps) [] 3 Tryz.f66 = some (ac_nand_Nand_program, [.t 6]) := by kernel_rfl
def U_nand_Nand_program := J oA (J (J (J (J (J (J (J @ac_nand_Nand_program.eq_1 (@mR _ _ c10_0.eq_1)) (@mR _ _ c10_1.eq_1)) (J (@mR _ _ c10_2.eq_1) (@mR _ _ c10_3.eq_1))) (J (J (J (@mU _ _ c10_4.eq_1) (@mU _ _ c10_5.eq_1)) (@mU _ _ c10_6.eq_1)) (J (@mU _ _ c10_7.eq_1) (@mD _ _ _ c10_8.eq_1)))) (J (J (J (J (@mR _ _ c10_9.eq_1) (@mR _ _ c10_10.eq_1)) (@mU _ _ c10_11.eq_1)) (J (@mD _ _ _ c10_12.eq_1) (@mR _ _ c10_13.eq_1))) (J (J (@mU _ _ c10_14.eq_1) (@mU _ _ c10_15.eq_1)) (J (@mU _ _ c10_16.eq_1) (@mU _ _ c10_17.eq_1))))) (J (J (J (J (J (@mU _ _ c10_18.eq_1) (@mU _ _ c10_19.eq_1)) (@mR _ _ c10_20.eq_1)) (J (@mR _ _ c10_21.eq_1) (@mR _ _ c10_22.eq_1))) (J (J (@mD _ _ _ c10_23.eq_1) (@mR _ _ c10_24.eq_1)) (J (@mR _ _ c10_25.eq_1) (@mU _ _ c10_26.eq_1)))) (J (J (J (J (@mU _ _ c10_27.eq_1) (@mU _ _ c10_28.eq_1)) (@mR _ _ c10_29.eq_1)) (J (@mD _ _ _ c10_30.eq_1) (@mR _ _ c10_31.eq_1))) (J (J (@mR _ _ c10_32.eq_1) (@mU _ _ c10_33.eq_1)) (J (@mU _ _ c10_34.eq_1) (@mU _ _ c10_35.eq_1)))))) (J (J (J (J (J (J (@mU _ _ c10_36.eq_1) (@mU _ _ c10_37.eq_1)) (@mU _ _ c10_38.eq_1)) (J (@mU _ _ c10_39.eq_1) (@mU _ _ c10_40.eq_1))) (J (J (J (@mU _ _ c10_41.eq_1) (@mD _ _ _ c10_42.eq_1)) (@mR _ _ c10_43.eq_1)) (J (@mU _ _ c10_44.eq_1) (@mU _ _ c10_45.eq_1)))) (J (J (J (J (@mU _ _ c10_46.eq_1) (@mU _ _ c10_47.eq_1)) (@mU _ _ c10_48.eq_1)) (J (@mU _ _ c10_49.eq_1) (@mU _ _ c10_50.eq_1))) (J (J (@mU _ _ c10_51.eq_1) @c10l0.eq_1) (J @c10l1.eq_1 @c10l2.eq_1)))) (J (J (J (J (J @c10l3.eq_1 @c10l8.eq_1) @c10l9.eq_1) (J @c10l10.eq_1 @c10l12.eq_1)) (J (J @c10l13.eq_1 @c10l20.eq_1) (J @c10l21.eq_1 @c10l22.eq_1))) (J (J (J (J @c10l23.eq_1 @c10l24.eq_1) @c10l25.eq_1) (J @c10l29.eq_1 @c10l30.eq_1)) (J (J @c10l31.eq_1 @c10l32.eq_1) (J @c10l42.eq_1 @c10l43.eq_1))))))

/- (*scoria/nand.Nand).read -/
def c11l0 : List AOp := [oD 2 (.box (.t 0)),
oD 3 (.box (.t 1)),
oD 4 (.mv (.k (.str []))),
oD 5 (.mv (.k .nili))]
def c11_0 : AC := .reg c11l0
def c11l1 : List AOp := [oD 9 (.load none (.t 2)),
oD 10 (.mkfn (.func 114) [] [(.t 2), (.t 3)]),
oD 11 (.icall 109 [(.t 9), (.t 10)]),
oD 6 (.mv (.t 11))]
def c11_1 : AC := .reg c11l1
def c11l2 : List AOp := [oD 12 (.mv (.t 6)),
oD 13 (.isn .i true (.t 12))]
def c11_2 : AC := .reg c11l2
def c11l3 : List AOp := [oD 14 (.mv (.t 6)),
oD 4 (.mv (.k (.str []))),
oD 5 (.mv (.t 14))]
def c11_3 : AC := .reg c11l3
def c11_4 : AC := .seq c11_3 .ret
def c11_5 : AC := .cond (.t 13) c11_4 .skip
def c11_6 : AC := .seq c11_2 c11_5
def c11_7 : AC := .seq c11_1 c11_6
def c11l8 : List AOp := [oD 15 (.load none (.t 2)),
oD 16 (.nilck (.t 15)),
oD 17 (.faddr 2 (.t 16)),
oD 18 (.load none (.t 17)),
oD 19 (.load none (.t 3)),
oD 20 (.load none (.t 2)),
oD 21 (.nilck (.t 20)),
oD 22 (.faddr 0 (.t 21)),
oD 23 (.faddr 1 (.t 22)),
oD 24 (.load none (.t 23)),
oD 25 (.bin .quo (.t 19) (.t 24)),
oD 26 (.isl 3 (.t 18) (.t 25)),
oD 27 (.load none (.t 3)),
oD 28 (.load none (.t 2)),
oD 29 (.nilck (.t 28)),
oD 30 (.faddr 0 (.t 29)),
oD 31 (.faddr 1 (.t 30)),
oD 32 (.load none (.t 31)),
oD 33 (.bin .rem (.t 27) (.t 32)),
oD 7 (.mv (.t 26)),
oD 8 (.mv (.t 33))]
def c11_8 : AC := .dreg 0 c11l8
def c11l9 : List AOp := [oD 34 (.mv (.t 8)),
oD 35 (.mv (.t 7)),
oD 36 (.nilck (.t 35)),
oD 37 (.faddr 0 (.t 36)),
oD 38 (.load none (.t 37)),
oD 39 (.len (.t 38)),
oD 40 (.bin .geq (.t 34) (.t 39))]
def c11_9 : AC := .reg c11l9
def c11l10 : List AOp := [oD 41 (.mki 36 (.k (.int .i64 42))),
oD 4 (.mv (.k (.str []))),
oD 5 (.mv (.t 41))]
def c11_10 : AC := .reg c11l10
def c11_11 : AC := .seq c11_10 .ret
def c11_12 : AC := .cond (.t 40) c11_11 .skip
def c11_13 : AC := .seq c11_9 c11_12
def c11l14 : List AOp := [oD 42 (.mv (.t 7)),
oD 43 (.nilck (.t 42)),
oD 44 (.faddr 0 (.t 43)),
oD 45 (.load none (.t 44)),
oD 46 (.mv (.t 8)),
oD 47 (.isl 1 (.t 45) (.t 46)),
oD 48 (.load none (.t 47)),
oD 4 (.mv (.t 48)),
oD 5 (.mv (.k .nili))]
def c11_14 : AC := .reg c11l14
def c11_15 : AC := .seq c11_14 .ret
def c11_16 : AC := .seq c11_13 c11_15
def c11_17 : AC := .seq c11_8 c11_16
def c11_18 : AC := .seq c11_7 c11_17
def c11_19 : AC := .seq c11_0 c11_18
def ac_nand_Nand_read : AC := c11_19
theorem comp_nand_Nand_read : compF Tryz.prog [1000109] (drawR Tryz.prog [1000109] Tryz.f67.ntmps) [] 2 Tryz.f67 = some (ac_nand_Nand_read, [.t 4, .t 5]) := by kernel_rfl
def U_nand_Nand_read := J oA (J (J (J (J (J @ac_nand_Nand_read.eq_1 (@mR _ _ c11_0.eq_1)) (J (@mR _ _ c11_1.eq_1) (@mR _ _ c11_2.eq_1))) (J (J (@mR _ _ c11_3.eq_1) (@mU _ _ c11_4.eq_1)) (J (@mU _ _ c11_5.eq_1) (@mU _ _ c11_6.eq_1)))) (J (J (J (@mU _ _ c11_7.eq_1) (@mD _ _ _ c11_8.eq_1)) (J (@mR _ _ c11_9.eq_1) (@mR _ _ c11_10.eq_1))) (J (J (@mU _ _ c11_11.eq_1) (@mU _ _ c11_12.eq_1)) (@mU _ _ c11_13.eq_1)))) (J (J (J (J (@mR _ _ c11_14.eq_1) (@mU _ _ c11_15.eq_1)) (J (@mU _ _ c11_16.eq_1) (@mU _ _ c11_17.eq_1))) (J (J (@mU _ _ c11_18.eq_1) (@mU _ _ c11_19.eq_1)) @c11l0.eq_1)) (J (J (J @c11l1.eq_1 @c11l2.eq_1) (J @c11l3.eq_1 @c11l8.eq_1)) (J (J @c11l9.eq_1 @c11l10.eq_1) @c11l14.eq_1))))

/- (*scoria/nand.Nand).Bad -/
def c12l0 : List AOp := [oD 4 (.mv (.k (.bool false)))]
def c12_0 : AC := .reg c12l0
def c12l1 : List AOp := [oD 5 (.mv (.t 0)),
oD 6 (.mv (.t 1)),
oD 7 (.rcall 117 [(.t 5), (.t 6)]),
oD 8 (.mv (.t 7)),
oG 9 (.mv (.t 0)) 8 true,
oG 10 (.nilck (.t 9)) 8 true,
oG 11 (.faddr 2 (.t 10)) 8 true,
oG 12 (.load none (.t 11)) 8 true,
oG 13 (.mv (.t 1)) 8 true,
oG 14 (.isl 3 (.t 12) (.t 13)) 8 true,
oG 15 (.faddr 2 (.t 14)) 8 true,
oG 16 (.load none (.t 15)) 8 true,
oD 17 (.pick (.t 8) (.t 16) (.k (.bool false))),
oD 4 (.mv (.t 17))]
def c12_1 : AC := .reg c12l1
def c12_2 : AC := .seq c12_1 .ret
def c12_3 : AC := .seq c12_0 c12_2
def ac_nand_Nand_Bad : AC := c12_3
theorem comp_nand_Nand_Bad : compF Tryz.prog [4000117] (drawR Tryz.prog [4000117] Tryz.f74.ntmps) [] 2 Tryz.f74 = some (ac_nand_Nand_Bad, [.t 4]) := by kernel_rfl
def U_nand_Nand_Bad := J oA (J (J (J @ac_nand_Nand_Bad.eq_1 (@mR _ _ c12_0.eq_1)) (J (@mR _ _ c12_1.eq_1) (@mU _ _ c12_2.eq_1))) (J (J (@mU _ _ c12_3.eq_1) @c12l0.eq_1) @c12l1.eq_1))

/- (*scoria/nand.Nand).Next -/
def c13l0 : List AOp := [oD 4 (.mv (.k (.int .i64 0)))]
def c13_0 : AC := .reg c13l0
def c13l1 : List AOp := [oD 5 (.mv (.t 0)),
oD 6 (.mv (.t 1)),
oD 7 (.rcall 117 [(.t 5), (.t 6)]),
oD 8 (.un .not (.t 7))]
def c13_1 : AC := .reg c13l1
def c13l2 : List AOp := [oD 4 (.mv (.k (.int .i64 0)))]
def c13_2 : AC := .reg c13l2
def c13_3 : AC := .seq c13_2 .ret
def c13_4 : AC := .cond (.t 8) c13_3 .skip
def c13_5 : AC := .seq c13_1 c13_4
def c13l6 : List AOp := [oD 9 (.mv (.t 0)),
oD 10 (.nilck (.t 9)),
oD 11 (.faddr 2 (.t 10)),
oD 12 (.load none (.t 11)),
oD 13 (.mv (.t 1)),
oD 14 (.isl 3 (.t 12) (.t 13)),
oD 15 (.faddr 0 (.t 14)),
oD 16 (.load none (.t 15)),
oD 17 (.len (.t 16)),
oD 4 (.mv (.t 17))]
def c13_6 : AC := .reg c13l6
def c13_7 : AC := .seq c13_6 .ret
def c13_8 : AC := .seq c13_5 c13_7
def c13_9 : AC := .seq c13_0 c13_8
def ac_nand_Nand_Next : AC := c13_9
theorem comp_nand_Nand_Next : compF Tryz.prog [4000117] (drawR Tryz.prog [4000117] Tryz.f75.ntmps) [] 2 Tryz.f75 = some (ac_nand_Nand_Next, [.t 4]) := by kernel_rfl
def U_nand_Nand_Next := J oA (J (J (J (J @ac_nand_Nand_Next.eq_1 (@mR _ _ c13_0.eq_1)) (J (@mR _ _ c13_1.eq_1) (@mR _ _ c13_2.eq_1))) (J (J (@mU _ _ c13_3.eq_1) (@mU _ _ c13_4.eq_1)) (J (@mU _ _ c13_5.eq_1) (@mR _ _ c13_6.eq_1)))) (J (J (J (@mU _ _ c13_7.eq_1) (@mU _ _ c13_8.eq_1)) (J (@mU _ _ c13_9.eq_1) @c13l0.eq_1)) (J (J @c13l1.eq_1 @c13l2.eq_1) @c13l6.eq_1)))

/- (*scoria/nand.Nand).Ops -/
def c14l0 : List AOp := [oD 2 (.mv (.k (.int .i64 0)))]
def c14_0 : AC := .reg c14l0
def c14l1 : List AOp := [oD 3 (.mv (.t 0)),
oD 4 (.isn .p false (.t 3))]
def c14_1 : AC := .reg c14l1
def c14l2 : List AOp := [oD 2 (.mv (.k (.int .i64 0)))]
def c14_2 : AC := .reg c14l2
def c14_3 : AC := .seq c14_2 .ret
def c14_4 : AC := .cond (.t 4) c14_3 .skip
def c14_5 : AC := .seq c14_1 c14_4
def c14l6 : List AOp := [oD 5 (.mv (.t 0)),
oD 6 (.nilck (.t 5)),
oD 7 (.faddr 3 (.t 6)),
oD 8 (.load none (.t 7)),
oD 2 (.mv (.t 8))]
def c14_6 : AC := .reg c14l6
def c14_7 : AC := .seq c14_6 .ret
def c14_8 : AC := .seq c14_5 c14_7
def c14_9 : AC := .seq c14_0 c14_8
def ac_nand_Nand_Ops : AC := c14_9
theorem comp_nand_Nand_Ops : compF Tryz.prog [] (drawR Tryz.prog [] Tryz.f83.ntmps) [] 1 Tryz.f83 = some (ac_nand_Nand_Ops, [.t 2]) := by kernel_rfl
def U_nand_Nand_Ops := J oA (J (J (J (J @ac_nand_Nand_Ops.eq_1 (@mR _ _ c14_0.eq_1)) (J (@mR _ _ c14_1.eq_1) (@mR _ _ c14_2.eq_1))) (J (J (@mU _ _ c14_3.eq_1) (@mU _ _ c14_4.eq_1)) (J (@mU _ _ c14_5.eq_1) (@mR _ _ c14_6.eq_1)))) (J (J (J (@mU _ _ c14_7.eq_1) (@mU _ _ c14_8.eq_1)) (J (@mU _ _ c14_9.eq_1) @c14l0.eq_1)) (J (J @c14l1.eq_1 @c14l2.eq_1) @c14l6.eq_1)))

/- scoria/fault.Code -/
def c15l0 : List AOp := [oD 2 (.mv (.k (.int .i64 0)))]
def c15_0 : AC := .reg c15l0
def c15l1 : List AOp := [oD 4 (.mv (.t 0)),
oD 5 (.isn .i false (.t 4))]
def c15_1 : AC := .reg c15l1
def c15l2 : List AOp := [oD 2 (.mv (.k (.int .i64 0)))]
def c15_2 : AC := .reg c15l2
def c15_3 : AC := .seq c15_2 .ret
def c15_4 : AC := .cond (.t 5) c15_3 .skip
def c15_5 : AC := .seq c15_1 c15_4
def c15l6 : List AOp := [oD 3 (.alloc [(.int .i64 0)]),
oN (.store 1 (.t 3) (.k (.int .i64 0)))]
def c15_6 : AC := .reg c15l6
def c15l7 : List AOp := [oD 6 (.mv (.t 0)),
oD 7 (.mki 213 (.t 3)),
oD 8 (.icall 123 [(.t 6), (.t 7)])]
def c15_7 : AC := .reg c15l7
def c15l8 : List AOp := [oD 9 (.load none (.t 3)),
oD 2 (.mv (.t 9))]
def c15_8 : AC := .reg c15l8
def c15_9 : AC := .seq c15_8 .ret
def c15_10 : AC := .cond (.t 8) c15_9 .skip
def c15_11 : AC := .seq c15_7 c15_10
def c15_12 : AC := .seq c15_6 c15_11
def c15l13 : List AOp := [oD 2 (.mv (.k (.int .i64 8)))]
def c15_13 : AC := .reg c15l13
def c15_14 : AC := .seq c15_13 .ret
def c15_15 : AC := .seq c15_12 c15_14
def c15_16 : AC := .seq c15_5 c15_15
def c15_17 : AC := .seq c15_0 c15_16
def ac_fault_Code : AC := c15_17
theorem comp_fault_Code : compF Tryz.prog [1000123] (drawR Tryz.prog [1000123] Tryz.f85.ntmps) [] 1 Tryz.f85 = some (ac_fault_Code, [.t 2]) := by kernel_rfl
def U_fault_Code := J oA (J (J (J (J (J @ac_fault_Code.eq_1 (@mR _ _ c15_0.eq_1)) (J (@mR _ _ c15_1.eq_1) (@mR _ _ c15_2.eq_1))) (J (J (@mU _ _ c15_3.eq_1) (@mU _ _ c15_4.eq_1)) (@mU _ _ c15_5.eq_1))) (J (J (J (@mR _ _ c15_6.eq_1) (@mR _ _ c15_7.eq_1)) (@mR _ _ c15_8.eq_1)) (J (J (@mU _ _ c15_9.eq_1) (@mU _ _ c15_10.eq_1)) (@mU _ _ c15_11.eq_1)))) (J (J (J (J (@mU _ _ c15_12.eq_1) (@mR _ _ c15_13.eq_1)) (J (@mU _ _ c15_14.eq_1) (@mU _ _ c15_15.eq_1))) (J (J (@mU _ _ c15_16.eq_1) (@mU _ _ c15_17.eq_1)) @c15l0.eq_1)) (J (J (J @c15l1.eq_1 @c15l2.eq_1) @c15l6.eq_1) (J (J @c15l7.eq_1 @c15l8.eq_1) @c15l13.eq_1))))

/- (*scoria/nand.Nand).ready -/
def c16l0 : List AOp := [oD 4 (.mv (.k .nili))]
def c16_0 : AC := .reg c16l0
def c16l1 : List AOp := [oD 6 (.mv (.t 0)),
oD 7 (.isn .p false (.t 6)),
oD 5 (.mv (.t 7))]
def c16_1 : AC := .reg c16l1
def c16l2 : List AOp := [oD 8 (.mki 36 (.k (.int .i64 1))),
oD 4 (.mv (.t 8))]
def c16_2 : AC := .reg c16l2
def c16_3 : AC := .seq c16_2 .ret
def c16l4 : List AOp := [oD 10 (.mv (.t 0)),
oD 11 (.nilck (.t 10)),
oD 12 (.faddr 5 (.t 11)),
oD 13 (.load none (.t 12)),
oD 9 (.mv (.t 13))]
def c16_4 : AC := .reg c16l4
def c16l5 : List AOp := [oD 14 (.mki 36 (.k (.int .i64 9))),
oD 4 (.mv (.t 14))]
def c16_5 : AC := .reg c16l5
def c16_6 : AC := .seq c16_5 .ret
def c16l7 : List AOp := [oD 16 (.mv (.t 1)),
oD 17 (.icallv (.t 16) []),
oD 18 (.un .not (.t 17)),
oD 15 (.mv (.t 18))]
def c16_7 : AC := .reg c16l7
def c16l8 : List AOp := [oD 19 (.mki 36 (.k (.int .i64 1))),
oD 4 (.mv (.t 19))]
def c16_8 : AC := .reg c16l8
def c16_9 : AC := .seq c16_8 .ret
def c16_10 : AC := .cond (.t 15) c16_9 .skip
def c16_11 : AC := .seq c16_7 c16_10
def c16_12 : AC := .cond (.t 9) c16_6 c16_11
def c16_13 : AC := .seq c16_4 c16_12
def c16_14 : AC := .cond (.t 5) c16_3 c16_13
def c16_15 : AC := .seq c16_1 c16_14
def c16_16 : AC := .block 0 c16_15
def c16l17 : List AOp := [oD 4 (.mv (.k .nili))]
def c16_17 : AC := .reg c16l17
def c16_18 : AC := .seq c16_17 .ret
def c16_19 : AC := .seq c16_16 c16_18
def c16_20 : AC := .seq c16_0 c16_19
def ac_nand_Nand_ready : AC := c16_20
theorem comp_nand_Nand_ready : compF Tryz.prog [2000000] (drawR Tryz.prog [2000000] Tryz.f109.ntmps) [] 2 Tryz.f109 = some (ac_nand_Nand_ready, [.t 4]) := by kernel_rfl
def U_nand_Nand_ready := J oA (J (J (J (J (J @ac_nand_Nand_ready.eq_1 (@mR _ _ c16_0.eq_1)) (J (@mR _ _ c16_1.eq_1) (@mR _ _ c16_2.eq_1))) (J (J (@mU _ _ c16_3.eq_1) (@mR _ _ c16_4.eq_1)) (J (@mR _ _ c16_5.eq_1) (@mU _ _ c16_6.eq_1)))) (J (J (J (@mR _ _ c16_7.eq_1) (@mR _ _ c16_8.eq_1)) (J (@mU _ _ c16_9.eq_1) (@mU _ _ c16_10.eq_1))) (J (J (@mU _ _ c16_11.eq_1) (@mU _ _ c16_12.eq_1)) (@mU _ _ c16_13.eq_1)))) (J (J (J (J (@mU _ _ c16_14.eq_1) (@mU _ _ c16_15.eq_1)) (J (@mU _ _ c16_16.eq_1) (@mR _ _ c16_17.eq_1))) (J (J (@mU _ _ c16_18.eq_1) (@mU _ _ c16_19.eq_1)) (J (@mU _ _ c16_20.eq_1) @c16l0.eq_1))) (J (J (J @c16l1.eq_1 @c16l2.eq_1) (J @c16l4.eq_1 @c16l5.eq_1)) (J (J @c16l7.eq_1 @c16l8.eq_1) @c16l17.eq_1))))

/- (*scoria/nand.Nand).program$1 -/
def c17l0 : List AOp := [oD 3 (.mv (.k (.bool false)))]
def c17_0 : AC := .reg c17l0
def c17l1 : List AOp := [oD 4 (.load none (.t 0)),
oD 5 (.load none (.t 1)),
oD 6 (.rcall 111 [(.t 4), (.t 5)]),
oD 7 (.mv (.t 6)),
oG 8 (.load none (.t 2)) 7 true,
oG 9 (.lens (.t 8)) 7 true,
oG 10 (.bin .leq (.t 9) (.k (.int .i64 128))) 7 true,
oD 11 (.pick (.t 7) (.t 10) (.k (.bool false))),
oD 3 (.mv (.t 11))]
def c17_1 : AC := .reg c17l1
def c17_2 : AC := .seq c17_1 .ret
def c17_3 : AC := .seq c17_0 c17_2
def ac_nand_Nand_program_c1 : AC := c17_3
theorem comp_nand_Nand_program_c1 : compF Tryz.prog [4000111] (drawR Tryz.prog [4000111] Tryz.f110.ntmps) [] 3 Tryz.f110 = some (ac_nand_Nand_program_c1, [.t 3]) := by kernel_rfl
def U_nand_Nand_program_c1 := J oA (J (J (J @ac_nand_Nand_program_c1.eq_1 (@mR _ _ c17_0.eq_1)) (J (@mR _ _ c17_1.eq_1) (@mU _ _ c17_2.eq_1))) (J (J (@mU _ _ c17_3.eq_1) @c17l0.eq_1) @c17l1.eq_1))

/- (*scoria/nand.Nand).page -/
def c18l0 : List AOp := [oD 4 (.mv (.k (.bool false)))]
def c18_0 : AC := .reg c18l0
def c18l1 : List AOp := [oD 5 (.mv (.t 1)),
oD 6 (.bin .geq (.t 5) (.k (.int .i64 0))),
oD 7 (.mv (.t 6)),
oG 8 (.mv (.t 1)) 7 true,
oG 9 (.mv (.t 0)) 7 true,
oG 10 (.nilck (.t 9)) 7 true,
oG 11 (.faddr 0 (.t 10)) 7 true,
oG 12 (.faddr 0 (.t 11)) 7 true,
oG 13 (.load none (.t 12)) 7 true,
oG 14 (.mv (.t 0)) 7 true,
oG 15 (.nilck (.t 14)) 7 true,
oG 16 (.faddr 0 (.t 15)) 7 true,
oG 17 (.faddr 1 (.t 16)) 7 true,
oG 18 (.load none (.t 17)) 7 true,
oG 19 (.bin .mul (.t 13) (.t 18)) 7 true,
oG 20 (.bin .lss (.t 8) (.t 19)) 7 true,
oD 21 (.pick (.t 7) (.t 20) (.k (.bool false))),
oD 4 (.mv (.t 21))]
def c18_1 : AC := .dreg 0 c18l1
def c18_2 : AC := .seq c18_1 .ret
def c18_3 : AC := .seq c18_0 c18_2
def ac_nand_Nand_page : AC := c18_3
theorem comp_nand_Nand_page : compF Tryz.prog [] (drawR Tryz.prog [] Tryz.f111.ntmps) [] 2 Tryz.f111 = some (ac_nand_Nand_page, [.t 4]) := by kernel_rfl
def U_nand_Nand_page := J oA (J (J (J @ac_nand_Nand_page.eq_1 (@mR _ _ c18_0.eq_1)) (J (@mD _ _ _ c18_1.eq_1) (@mU _ _ c18_2.eq_1))) (J (J (@mU _ _ c18_3.eq_1) @c18l0.eq_1) @c18l1.eq_1))

/- (*scoria/nand.Nand).count -/
def c19l0 : List AOp := [oD 1 (.box (.t 0)),
oD 2 (.alloc [(.int .i64 0), (.int .i64 0), (.int .i64 0), (.str [])])]
def c19_0 : AC := .reg c19l0
def c19l1 : List AOp := [oD 4 (.load none (.t 1)),
oD 5 (.nilck (.t 4)),
oD 6 (.faddr 3 (.t 5)),
oD 7 (.load none (.t 6)),
oD 8 (.bin .add (.t 7) (.k (.int .i64 1))),
oD 9 (.nilck (.t 4)),
oD 10 (.faddr 3 (.t 9)),
oN (.store 1 (.t 10) (.t 8))]
def c19_1 : AC := .reg c19l1
def c19l2 : List AOp := [oD 11 (.load none (.t 1)),
oD 12 (.nilck (.t 11)),
oD 13 (.faddr 4 (.t 12)),
oD 14 (.load none (.t 13)),
oD 15 (.mkfn (.func 147) [] [(.t 1)]),
oD 16 (.icall 146 [(.t 14), (.t 15)]),
oD 3 (.mv (.t 16))]
def c19_2 : AC := .reg c19l2
def c19l3 : List AOp := [oD 17 (.mv (.t 3)),
oD 18 (.bin .lss (.t 17) (.k (.int .i64 0)))]
def c19_3 : AC := .reg c19l3
def c19l4 : List AOp := [oD 19 (.build [(.int .i64 0), (.int .i64 0), (.int .i64 0), (.str [])] []),
oN (.store 4 (.t 2) (.t 19))]
def c19_4 : AC := .reg c19l4
def c19_5 : AC := .seq c19_4 .ret
def c19_6 : AC := .cond (.t 18) c19_5 .skip
def c19_7 : AC := .seq c19_3 c19_6
def c19l8 : List AOp := [oD 20 (.load none (.t 1)),
oD 21 (.nilck (.t 20)),
oD 22 (.faddr 4 (.t 21)),
oD 23 (.load none (.t 22)),
oD 24 (.mv (.t 3)),
oD 25 (.isl 4 (.t 23) (.t 24)),
oD 26 (.load (some 4) (.t 25)),
oN (.store 4 (.t 2) (.t 26))]
def c19_8 : AC := .reg c19l8
def c19_9 : AC := .seq c19_8 .ret
def c19_10 : AC := .seq c19_7 c19_9
def c19_11 : AC := .seq c19_2 c19_10
def c19_12 : AC := .seq c19_1 c19_11
def c19_13 : AC := .seq c19_0 c19_12
def ac_nand_Nand_count : AC := c19_13
theorem comp_nand_Nand_count : compF Tryz.prog [1000146] (drawR Tryz.prog [1000146] Tryz.f112.ntmps) [] 1 Tryz.f112 = some (ac_nand_Nand_count, [.c 2 (some 4)]) := by kernel_rfl
def U_nand_Nand_count := J oA (J (J (J (J (J @ac_nand_Nand_count.eq_1 (@mR _ _ c19_0.eq_1)) (@mR _ _ c19_1.eq_1)) (J (J (@mR _ _ c19_2.eq_1) (@mR _ _ c19_3.eq_1)) (@mR _ _ c19_4.eq_1))) (J (J (J (@mU _ _ c19_5.eq_1) (@mU _ _ c19_6.eq_1)) (@mU _ _ c19_7.eq_1)) (J (@mR _ _ c19_8.eq_1) (@mU _ _ c19_9.eq_1)))) (J (J (J (J (@mU _ _ c19_10.eq_1) (@mU _ _ c19_11.eq_1)) (@mU _ _ c19_12.eq_1)) (J (@mU _ _ c19_13.eq_1) @c19l0.eq_1)) (J (J (J @c19l1.eq_1 @c19l2.eq_1) @c19l3.eq_1) (J @c19l4.eq_1 @c19l8.eq_1))))

/- scoria/nand.spoilt -/
def c20l0 : List AOp := [oD 2 (.box (.t 0)),
oD 4 (.mv (.k (.str [])))]
def c20_0 : AC := .reg c20l0
def c20l1 : List AOp := [oD 6 (.mv (.t 1)),
oD 7 (.faddr 2 (.t 2)),
oD 8 (.load none (.t 7)),
oD 9 (.mv (.t 1)),
oD 10 (.lens (.t 9)),
oD 11 (.mm false [(.t 8), (.t 10)]),
oD 12 (.mm true [(.t 11), (.k (.int .i64 0))]),
oD 13 (.sstr (.t 6) none (some (.t 12))),
oD 14 (.faddr 3 (.t 2)),
oD 15 (.load none (.t 14)),
oD 16 (.bin .add (.t 13) (.t 15)),
oD 5 (.mv (.t 16))]
def c20_1 : AC := .dreg 0 c20l1
def c20l2 : List AOp := [oD 17 (.mv (.t 5)),
oD 18 (.mv (.t 5)),
oD 19 (.lens (.t 18)),
oD 20 (.mm false [(.t 19), (.k (.int .i64 128))]),
oD 21 (.sstr (.t 17) none (some (.t 20))),
oD 4 (.mv (.t 21))]
def c20_2 : AC := .reg c20l2
def c20_3 : AC := .seq c20_2 .ret
def c20_4 : AC := .seq c20_1 c20_3
def c20_5 : AC := .seq c20_0 c20_4
def ac_nand_spoilt : AC := c20_5
theorem comp_nand_spoilt : compF Tryz.prog [] (drawR Tryz.prog [] Tryz.f113.ntmps) [] 2 Tryz.f113 = some (ac_nand_spoilt, [.t 4]) := by kernel_rfl
def U_nand_spoilt := J oA (J (J (J (J @ac_nand_spoilt.eq_1 (@mR _ _ c20_0.eq_1)) (@mD _ _ _ c20_1.eq_1)) (J (@mR _ _ c20_2.eq_1) (@mU _ _ c20_3.eq_1))) (J (J (J (@mU _ _ c20_4.eq_1) (@mU _ _ c20_5.eq_1)) @c20l0.eq_1) (J @c20l1.eq_1 @c20l2.eq_1)))

/- (*scoria/nand.Nand).read$1 -/
def c21l0 : List AOp := [oD 2 (.mv (.k (.bool false)))]
def c21_0 : AC := .reg c21l0
def c21l1 : List AOp := [oD 3 (.load none (.t 0)),
oD 4 (.load none (.t 1)),
oD 5 (.rcall 111 [(.t 3), (.t 4)]),
oD 2 (.mv (.t 5))]
def c21_1 : AC := .reg c21l1
def c21_2 : AC := .seq c21_1 .ret
def c21_3 : AC := .seq c21_0 c21_2
def ac_nand_Nand_read_c1 : AC := c21_3
theorem comp_nand_Nand_read_c1 : compF Tryz.prog [4000111] (drawR Tryz.prog [4000111] Tryz.f114.ntmps) [] 2 Tryz.f114 = some (ac_nand_Nand_read_c1, [.t 2]) := by kernel_rfl
def U_nand_Nand_read_c1 := J oA (J (J (J @ac_nand_Nand_read_c1.eq_1 (@mR _ _ c21_0.eq_1)) (J (@mR _ _ c21_1.eq_1) (@mU _ _ c21_2.eq_1))) (J (J (@mU _ _ c21_3.eq_1) @c21l0.eq_1) @c21l1.eq_1))

/- (*scoria/nand.Nand).block -/
def c22l0 : List AOp := [oD 4 (.mv (.k (.bool false)))]
def c22_0 : AC := .reg c22l0
def c22l1 : List AOp := [oD 5 (.mv (.t 0)),
oD 6 (.isn .p true (.t 5)),
oD 7 (.mv (.t 6)),
oG 8 (.mv (.t 1)) 7 true,
oG 9 (.bin .geq (.t 8) (.k (.int .i64 0))) 7 true,
oD 10 (.pick (.t 7) (.t 9) (.k (.bool false))),
oD 11 (.mv (.t 10)),
oG 12 (.mv (.t 1)) 11 true,
oG 13 (.mv (.t 0)) 11 true,
oG 14 (.nilck (.t 13)) 11 true,
oG 15 (.faddr 0 (.t 14)) 11 true,
oG 16 (.faddr 0 (.t 15)) 11 true,
oG 17 (.load none (.t 16)) 11 true,
oG 18 (.bin .lss (.t 12) (.t 17)) 11 true,
oD 19 (.pick (.t 11) (.t 18) (.k (.bool false))),
oD 4 (.mv (.t 19))]
def c22_1 : AC := .reg c22l1
def c22_2 : AC := .seq c22_1 .ret
def c22_3 : AC := .seq c22_0 c22_2
def ac_nand_Nand_block : AC := c22_3
theorem comp_nand_Nand_block : compF Tryz.prog [] (drawR Tryz.prog [] Tryz.f117.ntmps) [] 2 Tryz.f117 = some (ac_nand_Nand_block, [.t 4]) := by kernel_rfl
def U_nand_Nand_block := J oA (J (J (J @ac_nand_Nand_block.eq_1 (@mR _ _ c22_0.eq_1)) (J (@mR _ _ c22_1.eq_1) (@mU _ _ c22_2.eq_1))) (J (J (@mU _ _ c22_3.eq_1) @c22l0.eq_1) @c22l1.eq_1))

/- (*scoria/nand.Nand).Worn -/
def c23l0 : List AOp := [oD 4 (.mv (.k (.int .i64 0)))]
def c23_0 : AC := .reg c23l0
def c23l1 : List AOp := [oD 5 (.mv (.t 0)),
oD 6 (.mv (.t 1)),
oD 7 (.rcall 117 [(.t 5), (.t 6)]),
oD 8 (.un .not (.t 7))]
def c23_1 : AC := .reg c23l1
def c23l2 : List AOp := [oD 4 (.mv (.k (.int .i64 0)))]
def c23_2 : AC := .reg c23l2
def c23_3 : AC := .seq c23_2 .ret
def c23_4 : AC := .cond (.t 8) c23_3 .skip
def c23_5 : AC := .seq c23_1 c23_4
def c23l6 : List AOp := [oD 9 (.mv (.t 0)),
oD 10 (.nilck (.t 9)),
oD 11 (.faddr 2 (.t 10)),
oD 12 (.load none (.t 11)),
oD 13 (.mv (.t 1)),
oD 14 (.isl 3 (.t 12) (.t 13)),
oD 15 (.faddr 1 (.t 14)),
oD 16 (.load none (.t 15)),
oD 4 (.mv (.t 16))]
def c23_6 : AC := .reg c23l6
def c23_7 : AC := .seq c23_6 .ret
def c23_8 : AC := .seq c23_5 c23_7
def c23_9 : AC := .seq c23_0 c23_8
def ac_nand_Nand_Worn : AC := c23_9
theorem comp_nand_Nand_Worn : compF Tryz.prog [4000117] (drawR Tryz.prog [4000117] Tryz.f140.ntmps) [] 2 Tryz.f140 = some (ac_nand_Nand_Worn, [.t 4]) := by kernel_rfl
def U_nand_Nand_Worn := J oA (J (J (J (J @ac_nand_Nand_Worn.eq_1 (@mR _ _ c23_0.eq_1)) (J (@mR _ _ c23_1.eq_1) (@mR _ _ c23_2.eq_1))) (J (J (@mU _ _ c23_3.eq_1) (@mU _ _ c23_4.eq_1)) (J (@mU _ _ c23_5.eq_1) (@mR _ _ c23_6.eq_1)))) (J (J (J (@mU _ _ c23_7.eq_1) (@mU _ _ c23_8.eq_1)) (J (@mU _ _ c23_9.eq_1) @c23l0.eq_1)) (J (J @c23l1.eq_1 @c23l2.eq_1) @c23l6.eq_1)))

/- slices.IndexFunc[[]scoria/api.Mishap,scoria/api.Mishap] -/
def c24l0 : List AOp := [oD 4 (.mv (.k (.int .i64 0)))]
def c24_0 : AC := .reg c24l0
def c24l1 : List AOp := [oD 6 (.mv (.t 0)),
oD 7 (.len (.t 6)),
oD 8 (.mv (.k (.int .i64 0)))]
def c24_1 : AC := .reg c24l1
def c24l2 : List AOp := [oD 9 (.bin .lss (.t 8) (.t 7))]
def c24_2 : AC := .reg c24l2
def c24_3 : AC := .cond (.t 9) .skip (.exit 0)
def c24l4 : List AOp := [oD 10 (.mv (.t 8)),
oD 5 (.mv (.t 10))]
def c24_4 : AC := .reg c24l4
def c24l5 : List AOp := [oD 11 (.mv (.t 1)),
oD 12 (.mv (.t 0)),
oD 13 (.mv (.t 5)),
oD 14 (.isl 4 (.t 12) (.t 13)),
oD 15 (.load (some 4) (.t 14)),
oD 16 (.icallv (.t 11) [(.t 15)])]
def c24_5 : AC := .reg c24l5
def c24l6 : List AOp := [oD 17 (.mv (.t 5)),
oD 4 (.mv (.t 17))]
def c24_6 : AC := .reg c24l6
def c24_7 : AC := .seq c24_6 .ret
def c24_8 : AC := .cond (.t 16) c24_7 .skip
def c24_9 : AC := .seq c24_5 c24_8
def c24_10 : AC := .seq c24_4 c24_9
def c24_11 : AC := .block 1 c24_10
def c24l12 : List AOp := [oD 18 (.bin .add (.t 8) (.k (.int .i64 1))),
oD 8 (.mv (.t 18))]
def c24_12 : AC := .reg c24l12
def c24_13 : AC := .seq c24_11 c24_12
def c24_14 : AC := .seq c24_3 c24_13
def c24_15 : AC := .seq c24_2 c24_14
def c24_16 : AC := .loop [0, 1, 7, 8] 1000000000 c24_15
def c24_17 : AC := .block 0 c24_16
def c24_18 : AC := .seq c24_1 c24_17
def c24l19 : List AOp := [oD 4 (.mv (.k (.int .i64 (-1))))]
def c24_19 : AC := .reg c24l19
def c24_20 : AC := .seq c24_19 .ret
def c24_21 : AC := .seq c24_18 c24_20
def c24_22 : AC := .seq c24_0 c24_21
def ac_slices_IndexFunc_api_Mishap : AC := c24_22
theorem comp_slices_IndexFunc_api_Mishap : compF Tryz.prog [2000000] (drawR Tryz.prog [2000000] Tryz.f146.ntmps) [([0, 1, 7, 8], 1000000000)] 2 Tryz.f146 = some (ac_slices_IndexFunc_api_Mishap, [.t 4]) := by kernel_rfl
def U_slices_IndexFunc_api_Mishap := J oA (J (J (J (J (J @ac_slices_IndexFunc_api_Mishap.eq_1 (@mR _ _ c24_0.eq_1)) (J (@mR _ _ c24_1.eq_1) (@mR _ _ c24_2.eq_1))) (J (J (@mU _ _ c24_3.eq_1) (@mR _ _ c24_4.eq_1)) (J (@mR _ _ c24_5.eq_1) (@mR _ _ c24_6.eq_1)))) (J (J (J (@mU _ _ c24_7.eq_1) (@mU _ _ c24_8.eq_1)) (J (@mU _ _ c24_9.eq_1) (@mU _ _ c24_10.eq_1))) (J (J (@mU _ _ c24_11.eq_1) (@mR _ _ c24_12.eq_1)) (J (@mU _ _ c24_13.eq_1) (@mU _ _ c24_14.eq_1))))) (J (J (J (J (@mU _ _ c24_15.eq_1) (@mU _ _ c24_16.eq_1)) (J (@mU _ _ c24_17.eq_1) (@mU _ _ c24_18.eq_1))) (J (J (@mR _ _ c24_19.eq_1) (@mU _ _ c24_20.eq_1)) (J (@mU _ _ c24_21.eq_1) (@mU _ _ c24_22.eq_1)))) (J (J (J @c24l0.eq_1 @c24l1.eq_1) (J @c24l2.eq_1 @c24l4.eq_1)) (J (J @c24l5.eq_1 @c24l6.eq_1) (J @c24l12.eq_1 @c24l19.eq_1)))))

/- (*scoria/nand.Nand).count$1 -/
def c25l0 : List AOp := [oD 2 (.box (.t 0)),
oD 3 (.mv (.k (.bool false)))]
def c25_0 : AC := .reg c25l0
def c25l1 : List AOp := [oD 4 (.faddr 0 (.t 2)),
oD 5 (.load none (.t 4)),
oD 6 (.load none (.t 1)),
oD 7 (.nilck (.t 6)),
oD 8 (.faddr 3 (.t 7)),
oD 9 (.load none (.t 8)),
oD 10 (.bin .eql (.t 5) (.t 9)),
oD 3 (.mv (.t 10))]
def c25_1 : AC := .dreg 0 c25l1
def c25_2 : AC := .seq c25_1 .ret
def c25_3 : AC := .seq c25_0 c25_2
def ac_nand_Nand_count_c1 : AC := c25_3
theorem comp_nand_Nand_count_c1 : compF Tryz.prog [] (drawR Tryz.prog [] Tryz.f147.ntmps) [] 2 Tryz.f147 = some (ac_nand_Nand_count_c1, [.t 3]) := by kernel_rfl
def U_nand_Nand_count_c1 := J oA (J (J (J @ac_nand_Nand_count_c1.eq_1 (@mR _ _ c25_0.eq_1)) (J (@mD _ _ _ c25_1.eq_1) (@mU _ _ c25_2.eq_1))) (J (J (@mU _ _ c25_3.eq_1) @c25l0.eq_1) @c25l1.eq_1))

end Go.Proofs.YtdgpiobmncohjaaGreatDoor.Aw
namespace Go.Proofs.YtdgpiobmncohjaaGreatDoor.Aw
open Go.RowKit
/- scoria/scoriatop.fine -/
def d0l0 : List AOp := [oD 0 (.mv (.k (.bool false)))]
def d0_0 : AC := .reg d0l0
def d0l1 : List AOp := [oD 9 (.call false 6 []),
oD 10 (.icall 5 [(.t 9)]),
oD 8 (.mv (.t 10)),
oD 11 (.ext 0 (.t 8)),
oD 12 (.ext 1 (.t 8)),
oD 1 (.mv (.t 11)),
oD 2 (.mv (.t 12))]
def d0_1 : AC := .reg d0l1
def d0l2 : List AOp := [oD 14 (.build [(.int .i64 0), (.int .i64 0), (.int .i64 0), (.int .i64 0), (.str [])] [(0, 1, (.k (.int .i64 1))), (2, 1, (.k (.int .i64 3))), (4, 1, (.k (.str [97])))]),
oD 15 (.call false 30 [(.t 14)]),
oD 13 (.mv (.t 15)),
oD 16 (.ext 0 (.t 13)),
oD 17 (.ext 1 (.t 13)),
oD 3 (.mv (.t 16)),
oD 4 (.mv (.t 17))]
def d0_2 : AC := .reg d0l2
def d0l3 : List AOp := [oD 18 (.mv (.t 2)),
oD 19 (.isn .i true (.t 18)),
oD 20 (.mv (.t 19)),
oG 21 (.mv (.t 1)) 20 false,
oG 22 (.isn .p false (.t 21)) 20 false,
oD 23 (.pick (.t 20) (.k (.bool true)) (.t 22)),
oD 24 (.mv (.t 23)),
oG 25 (.mv (.t 4)) 24 false,
oG 26 (.bin .neq (.t 25) (.k (.int .i64 0))) 24 false,
oD 27 (.pick (.t 24) (.k (.bool true)) (.t 26)),
oD 28 (.mv (.t 27)),
oG 29 (.mv (.t 1)) 28 false,
oG 30 (.mv (.t 3)) 28 false,
oG 31 (.icall 31 [(.t 29), (.k (.int .i64 0)), (.t 30)]) 28 false,
oG 32 (.isn .i true (.t 31)) 28 false,
oD 33 (.pick (.t 28) (.k (.bool true)) (.t 32))]
def d0_3 : AC := .reg d0l3
def d0l4 : List AOp := [oD 0 (.mv (.k (.bool false)))]
def d0_4 : AC := .reg d0l4
def d0_5 : AC := .seq d0_4 .ret
def d0_6 : AC := .cond (.t 33) d0_5 .skip
def d0_7 : AC := .seq d0_3 d0_6
def d0l8 : List AOp := [oD 35 (.mv (.t 1)),
oD 36 (.icall 32 [(.t 35), (.k (.int .i64 0))]),
oD 34 (.mv (.t 36)),
oD 37 (.ext 0 (.t 34)),
oD 38 (.ext 1 (.t 34)),
oD 5 (.mv (.t 37)),
oD 2 (.mv (.t 38))]
def d0_8 : AC := .reg d0l8
def d0l9 : List AOp := [oD 40 (.mv (.t 5)),
oD 41 (.call false 8 [(.t 40)]),
oD 39 (.mv (.t 41)),
oD 42 (.ext 0 (.t 39)),
oD 43 (.ext 1 (.t 39)),
oD 6 (.alloc [(.int .i64 0), (.int .i64 0), (.int .i64 0), (.int .i64 0), (.str [])]),
oN (.store 5 (.t 6) (.t 42)),
oD 7 (.mv (.t 43))]
def d0_9 : AC := .reg d0l9
def d0l10 : List AOp := [oD 44 (.mv (.t 2)),
oD 45 (.isn .i false (.t 44)),
oD 46 (.mv (.t 45)),
oG 47 (.mv (.t 7)) 46 true,
oG 48 (.bin .eql (.t 47) (.k (.int .i64 0))) 46 true,
oD 49 (.pick (.t 46) (.t 48) (.k (.bool false))),
oD 50 (.mv (.t 49)),
oG 51 (.faddr 2 (.t 6)) 50 true,
oG 52 (.load none (.t 51)) 50 true,
oG 53 (.bin .eql (.t 52) (.k (.int .i64 3))) 50 true,
oD 54 (.pick (.t 50) (.t 53) (.k (.bool false))),
oD 55 (.mv (.t 54)),
oG 56 (.faddr 4 (.t 6)) 55 true,
oG 57 (.load none (.t 56)) 55 true,
oG 58 (.bin .eql (.t 57) (.k (.str [97]))) 55 true,
oD 59 (.pick (.t 55) (.t 58) (.k (.bool false))),
oD 0 (.mv (.t 59))]
def d0_10 : AC := .reg d0l10
def d0_11 : AC := .seq d0_10 .ret
def d0_12 : AC := .seq d0_9 d0_11
def d0_13 : AC := .seq d0_8 d0_12
def d0_14 : AC := .seq d0_7 d0_13
def d0_15 : AC := .seq d0_2 d0_14
def d0_16 : AC := .seq d0_1 d0_15
def d0_17 : AC := .seq d0_0 d0_16
def ac_top_fine : AC := d0_17
theorem comp_top_fine : compF Tryz.prog [1000005, 1000031, 1000032] (drawR Tryz.prog [1000005, 1000031, 1000032] Tryz.f7.ntmps) [] 0 Tryz.f7 = some (ac_top_fine, [.t 0]) := by kernel_rfl
def U_top_fine := J oA (J (J (J (J (J @ac_top_fine.eq_1 (@mR _ _ d0_0.eq_1)) (J (@mR _ _ d0_1.eq_1) (@mR _ _ d0_2.eq_1))) (J (J (@mR _ _ d0_3.eq_1) (@mR _ _ d0_4.eq_1)) (@mU _ _ d0_5.eq_1))) (J (J (J (@mU _ _ d0_6.eq_1) (@mU _ _ d0_7.eq_1)) (J (@mR _ _ d0_8.eq_1) (@mR _ _ d0_9.eq_1))) (J (J (@mR _ _ d0_10.eq_1) (@mU _ _ d0_11.eq_1)) (@mU _ _ d0_12.eq_1)))) (J (J (J (J (@mU _ _ d0_13.eq_1) (@mU _ _ d0_14.eq_1)) (J (@mU _ _ d0_15.eq_1) (@mU _ _ d0_16.eq_1))) (J (J (@mU _ _ d0_17.eq_1) @d0l0.eq_1) @d0l1.eq_1)) (J (J (J @d0l2.eq_1 @d0l3.eq_1) @d0l4.eq_1) (J (J @d0l8.eq_1 @d0l9.eq_1) @d0l10.eq_1))))

/- scoria/store.Open -/
def d1l0 : List AOp := [oD 2 (.mv (.k .nilp)),
oD 3 (.mv (.k .nili))]
def d1_0 : AC := .reg d1l0
def d1l1 : List AOp := [oD 9 (.mv (.t 0)),
oD 10 (.isn .p false (.t 9)),
oD 8 (.mv (.t 10))]
def d1_1 : AC := .reg d1l1
def d1l2 : List AOp := [oD 11 (.mki 36 (.k (.int .i64 1))),
oD 12 (.icall 29 [(.k (.str [111, 112, 101, 110])), (.k (.int .i64 0)), (.t 11)]),
oD 2 (.mv (.k .nilp)),
oD 3 (.mv (.t 12))]
def d1_2 : AC := .reg d1l2
def d1_3 : AC := .seq d1_2 .ret
def d1l4 : List AOp := [oD 14 (.mv (.t 0)),
oD 15 (.rcall 37 [(.t 14)]),
oD 13 (.mv (.t 15))]
def d1_4 : AC := .reg d1l4
def d1l5 : List AOp := [oD 16 (.mki 36 (.k (.int .i64 9))),
oD 17 (.icall 29 [(.k (.str [111, 112, 101, 110])), (.k (.int .i64 0)), (.t 16)]),
oD 2 (.mv (.k .nilp)),
oD 3 (.mv (.t 17))]
def d1_5 : AC := .reg d1l5
def d1_6 : AC := .seq d1_5 .ret
def d1_7 : AC := .cond (.t 13) d1_6 .skip
def d1_8 : AC := .seq d1_4 d1_7
def d1_9 : AC := .cond (.t 8) d1_3 d1_8
def d1_10 : AC := .seq d1_1 d1_9
def d1_11 : AC := .block 0 d1_10
def d1l12 : List AOp := [oD 18 (.mv (.t 0)),
oD 19 (.mv (.t 0)),
oD 20 (.rcall 38 [(.t 19)]),
oD 21 (.build [.nilp, (.int .i64 0), (.int .i64 0), (.int .i64 0), (.int .i64 0), (.int .i64 0), (.int .i64 0), (.int .i64 0), .nils, .nils, (.int .i64 0), (.int .i64 0)] [(0, 1, (.t 18)), (1, 2, (.t 20)), (10, 1, (.k (.int .i64 (-1))))]),
oD 22 (.box (.t 21)),
oD 4 (.mv (.t 22))]
def d1_12 : AC := .reg d1l12
def d1l13 : List AOp := [oD 24 (.mv (.t 4)),
oD 25 (.mv (.t 4)),
oD 26 (.nilck (.t 25)),
oD 27 (.faddr 1 (.t 26)),
oD 28 (.load (some 2) (.t 27)),
oD 29 (.call false 39 [(.t 28)]),
oD 23 (.mv (.t 29)),
oD 30 (.ext 0 (.t 23)),
oD 31 (.ext 1 (.t 23)),
oD 32 (.nilck (.t 24)),
oD 33 (.faddr 3 (.t 32)),
oN (.store 5 (.t 33) (.t 30))]
def d1_13 : AC := .reg d1l13
def d1l14 : List AOp := [oD 34 (.mv (.t 4)),
oD 35 (.mv (.t 4)),
oD 36 (.nilck (.t 35)),
oD 37 (.faddr 1 (.t 36)),
oD 38 (.faddr 0 (.t 37)),
oD 39 (.load none (.t 38)),
oD 40 (.mks false [(.int .i64 0)] 8 (.t 39) (.t 39)),
oD 41 (.nilck (.t 34)),
oD 42 (.faddr 9 (.t 41)),
oN (.store 1 (.t 42) (.t 40))]
def d1_14 : AC := .reg d1l14
def d1l15 : List AOp := [oD 43 (.mv (.t 4)),
oD 44 (.nilck (.t 43)),
oD 45 (.faddr 1 (.t 44)),
oD 46 (.faddr 0 (.t 45)),
oD 47 (.load none (.t 46)),
oD 48 (.mv (.k (.int .i64 0)))]
def d1_15 : AC := .reg d1l15
def d1l16 : List AOp := [oD 49 (.bin .lss (.t 48) (.t 47))]
def d1_16 : AC := .reg d1l16
def d1_17 : AC := .cond (.t 49) .skip (.exit 1)
def d1l18 : List AOp := [oD 50 (.mv (.t 48)),
oD 5 (.mv (.t 50))]
def d1_18 : AC := .reg d1l18
def d1l19 : List AOp := [oD 51 (.mv (.t 4)),
oD 52 (.mv (.t 4)),
oD 53 (.nilck (.t 52)),
oD 54 (.faddr 8 (.t 53)),
  ⟨(some 55), .load none (.t 54), none, none, [0], none⟩,
oD 56 (.mv (.t 0)),
oD 57 (.mv (.t 5)),
  ⟨(some 58), .rcall 40 [(.t 56), (.t 57)], none, none, [0], none⟩,
  ⟨(some 59), .blds false [(.int .i64 0)] 1 [(0, (.t 58))], none, none, [0], none⟩,
  ⟨(some 60), .app 1 8 [(.int .i64 0)] (.t 55) (.t 59), none, (some 0), [], none⟩,
oD 61 (.nilck (.t 51)),
oD 62 (.faddr 8 (.t 61)),
oN (.store 1 (.t 62) (.t 60))]
def d1_19 : AC := .dreg 1 d1l19
def d1_20 : AC := .seq d1_18 d1_19
def d1_21 : AC := .block 2 d1_20
def d1l22 : List AOp := [oD 63 (.bin .add (.t 48) (.k (.int .i64 1))),
oD 48 (.mv (.t 63))]
def d1_22 : AC := .reg d1l22
def d1_23 : AC := .seq d1_21 d1_22
def d1_24 : AC := .seq d1_17 d1_23
def d1_25 : AC := .seq d1_16 d1_24
def d1_26 : AC := .loop [0, 4, 47, 48] 1000000000 d1_25
def d1_27 : AC := .block 1 d1_26
def d1_28 : AC := .seq d1_15 d1_27
def d1l29 : List AOp := [oD 64 (.mv (.t 4)),
oD 65 (.icall 41 [(.t 64)]),
oD 66 (.len (.t 65)),
oD 67 (.mv (.k (.int .i64 0)))]
def d1_29 : AC := .reg d1l29
def d1l30 : List AOp := [oD 68 (.bin .lss (.t 67) (.t 66))]
def d1_30 : AC := .reg d1l30
def d1_31 : AC := .cond (.t 68) .skip (.exit 3)
def d1l32 : List AOp := [oD 69 (.isl 6 (.t 65) (.t 67)),
oD 70 (.load (some 6) (.t 69)),
oD 7 (.alloc [(.int .i64 0), (.int .i64 0), (.int .i64 0), (.int .i64 0), (.int .i64 0), (.str [])]),
oN (.store 6 (.t 7) (.t 70))]
def d1_32 : AC := .reg d1l32
def d1l33 : List AOp := [oD 71 (.mv (.t 4)),
oD 72 (.mv (.t 4)),
oD 73 (.nilck (.t 72)),
oD 74 (.faddr 11 (.t 73)),
oD 75 (.load none (.t 74)),
oD 76 (.faddr 1 (.t 7)),
oD 77 (.faddr 3 (.t 76)),
oD 78 (.load none (.t 77)),
oD 79 (.bin .add (.t 78) (.k (.int .i64 1))),
oD 80 (.mm true [(.t 75), (.t 79)]),
oD 81 (.nilck (.t 71)),
oD 82 (.faddr 11 (.t 81)),
oN (.store 1 (.t 82) (.t 80))]
def d1_33 : AC := .dreg 0 d1l33
def d1_34 : AC := .seq d1_32 d1_33
def d1_35 : AC := .block 4 d1_34
def d1l36 : List AOp := [oD 83 (.bin .add (.t 67) (.k (.int .i64 1))),
oD 67 (.mv (.t 83))]
def d1_36 : AC := .reg d1l36
def d1_37 : AC := .seq d1_35 d1_36
def d1_38 : AC := .seq d1_31 d1_37
def d1_39 : AC := .seq d1_30 d1_38
def d1_40 : AC := .loop [4, 65, 66, 67] 1000000000 d1_39
def d1_41 : AC := .block 3 d1_40
def d1_42 : AC := .seq d1_29 d1_41
def d1l43 : List AOp := [oD 84 (.mv (.t 4)),
oD 2 (.mv (.t 84)),
oD 3 (.mv (.k .nili))]
def d1_43 : AC := .reg d1l43
def d1_44 : AC := .seq d1_43 .ret
def d1_45 : AC := .seq d1_42 d1_44
def d1_46 : AC := .seq d1_28 d1_45
def d1_47 : AC := .seq d1_14 d1_46
def d1_48 : AC := .seq d1_13 d1_47
def d1_49 : AC := .seq d1_12 d1_48
def d1_50 : AC := .seq d1_11 d1_49
def d1_51 : AC := .seq d1_0 d1_50
def ac_store_Open : AC := d1_51
theorem comp_store_Open : compF Tryz.prog [21, 1000029, 4000037, 4000038, 4000040, 1000041] (drawR Tryz.prog [21, 1000029, 4000037, 4000038, 4000040, 1000041] Tryz.f9.ntmps) [([0, 4, 47, 48], 1000000000), ([4, 65, 66, 67], 1000000000)] 1 Tryz.f9 = some (ac_store_Open, [.t 2, .t 3]) := by kernel_rfl
def U_store_Open := J oA (J (J (J (J (J (J (J @ac_store_Open.eq_1 (@mR _ _ d1_0.eq_1)) (@mR _ _ d1_1.eq_1)) (J (@mR _ _ d1_2.eq_1) (@mU _ _ d1_3.eq_1))) (J (J (@mR _ _ d1_4.eq_1) (@mR _ _ d1_5.eq_1)) (J (@mU _ _ d1_6.eq_1) (@mU _ _ d1_7.eq_1)))) (J (J (J (J (@mU _ _ d1_8.eq_1) (@mU _ _ d1_9.eq_1)) (@mU _ _ d1_10.eq_1)) (J (@mU _ _ d1_11.eq_1) (@mR _ _ d1_12.eq_1))) (J (J (@mR _ _ d1_13.eq_1) (@mR _ _ d1_14.eq_1)) (J (@mR _ _ d1_15.eq_1) (@mR _ _ d1_16.eq_1))))) (J (J (J (J (J (@mU _ _ d1_17.eq_1) (@mR _ _ d1_18.eq_1)) (@mD _ _ _ d1_19.eq_1)) (J (@mU _ _ d1_20.eq_1) (@mU _ _ d1_21.eq_1))) (J (J (@mR _ _ d1_22.eq_1) (@mU _ _ d1_23.eq_1)) (J (@mU _ _ d1_24.eq_1) (@mU _ _ d1_25.eq_1)))) (J (J (J (J (@mU _ _ d1_26.eq_1) (@mU _ _ d1_27.eq_1)) (@mU _ _ d1_28.eq_1)) (J (@mR _ _ d1_29.eq_1) (@mR _ _ d1_30.eq_1))) (J (J (@mU _ _ d1_31.eq_1) (@mR _ _ d1_32.eq_1)) (J (@mD _ _ _ d1_33.eq_1) (@mU _ _ d1_34.eq_1)))))) (J (J (J (J (J (J (@mU _ _ d1_35.eq_1) (@mR _ _ d1_36.eq_1)) (@mU _ _ d1_37.eq_1)) (J (@mU _ _ d1_38.eq_1) (@mU _ _ d1_39.eq_1))) (J (J (@mU _ _ d1_40.eq_1) (@mU _ _ d1_41.eq_1)) (J (@mU _ _ d1_42.eq_1) (@mR _ _ d1_43.eq_1)))) (J (J (J (J (@mU _ _ d1_44.eq_1) (@mU _ _ d1_45.eq_1)) (@mU _ _ d1_46.eq_1)) (J (@mU _ _ d1_47.eq_1) (@mU _ _ d1_48.eq_1))) (J (J (@mU _ _ d1_49.eq_1) (@mU _ _ d1_50.eq_1)) (J (@mU _ _ d1_51.eq_1) @d1l0.eq_1)))) (J (J (J (J (J @d1l1.eq_1 @d1l2.eq_1) @d1l4.eq_1) (J @d1l5.eq_1 @d1l12.eq_1)) (J (J @d1l13.eq_1 @d1l14.eq_1) (J @d1l15.eq_1 @d1l16.eq_1))) (J (J (J (J @d1l18.eq_1 @d1l19.eq_1) @d1l22.eq_1) (J @d1l29.eq_1 @d1l30.eq_1)) (J (J @d1l32.eq_1 @d1l33.eq_1) (J @d1l36.eq_1 @d1l43.eq_1))))))

/- (*scoria/store.Store).Append -/
def d2l0 : List AOp := [oD 3 (.box (.t 1)),
oD 4 (.mv (.k (.int .i64 0))),
oD 5 (.mv (.k .nili))]
def d2_0 : AC := .reg d2l0
def d2l1 : List AOp := [oD 7 (.mv (.t 0)),
oD 8 (.load (some 5) (.t 3)),
oD 9 (.icall 46 [(.t 7), (.t 8)]),
oD 6 (.mv (.t 9)),
oD 10 (.ext 0 (.t 6)),
oD 11 (.ext 1 (.t 6)),
oD 4 (.mv (.t 10)),
oD 5 (.mv (.t 11))]
def d2_1 : AC := .reg d2l1
def d2l2 : List AOp := [oD 12 (.mv (.t 4)),
oD 13 (.faddr 2 (.t 3)),
oD 14 (.load none (.t 13)),
oD 15 (.mv (.t 5)),
oD 16 (.icall 29 [(.k (.str [97, 112, 112, 101, 110, 100])), (.t 14), (.t 15)]),
oD 4 (.mv (.t 12)),
oD 5 (.mv (.t 16))]
def d2_2 : AC := .reg d2l2
def d2_3 : AC := .seq d2_2 .ret
def d2_4 : AC := .seq d2_1 d2_3
def d2_5 : AC := .seq d2_0 d2_4
def ac_store_Store_Append : AC := d2_5
theorem comp_store_Store_Append : compF Tryz.prog [1000046, 1000029] (drawR Tryz.prog [1000046, 1000029] Tryz.f11.ntmps) [] 2 Tryz.f11 = some (ac_store_Store_Append, [.t 4, .t 5]) := by kernel_rfl
def U_store_Store_Append := J oA (J (J (J (J @ac_store_Store_Append.eq_1 (@mR _ _ d2_0.eq_1)) (@mR _ _ d2_1.eq_1)) (J (@mR _ _ d2_2.eq_1) (@mU _ _ d2_3.eq_1))) (J (J (J (@mU _ _ d2_4.eq_1) (@mU _ _ d2_5.eq_1)) @d2l0.eq_1) (J @d2l1.eq_1 @d2l2.eq_1)))

/- (*scoria/store.Store).Scan -/
def d3l0 : List AOp := [oD 2 (.mv (.k (.slc []))),
oD 3 (.mv (.k .nili))]
def d3_0 : AC := .reg d3l0
def d3l1 : List AOp := [oD 5 (.mv (.t 0)),
oD 6 (.isn .p false (.t 5)),
oD 4 (.mv (.t 6))]
def d3_1 : AC := .reg d3l1
def d3l2 : List AOp := [oD 7 (.mki 36 (.k (.int .i64 1))),
oD 8 (.icall 29 [(.k (.str [115, 99, 97, 110])), (.k (.int .i64 0)), (.t 7)]),
oD 2 (.mv (.k (.slc []))),
oD 3 (.mv (.t 8))]
def d3_2 : AC := .reg d3l2
def d3_3 : AC := .seq d3_2 .ret
def d3l4 : List AOp := [oD 10 (.mv (.t 0)),
oD 11 (.nilck (.t 10)),
oD 12 (.faddr 0 (.t 11)),
oD 13 (.load none (.t 12)),
oD 14 (.rcall 37 [(.t 13)]),
oD 9 (.mv (.t 14))]
def d3_4 : AC := .reg d3l4
def d3l5 : List AOp := [oD 15 (.mki 36 (.k (.int .i64 9))),
oD 16 (.icall 29 [(.k (.str [115, 99, 97, 110])), (.k (.int .i64 0)), (.t 15)]),
oD 2 (.mv (.k (.slc []))),
oD 3 (.mv (.t 16))]
def d3_5 : AC := .reg d3l5
def d3_6 : AC := .seq d3_5 .ret
def d3_7 : AC := .cond (.t 9) d3_6 .skip
def d3_8 : AC := .seq d3_4 d3_7
def d3_9 : AC := .cond (.t 4) d3_3 d3_8
def d3_10 : AC := .seq d3_1 d3_9
def d3_11 : AC := .block 0 d3_10
def d3l12 : List AOp := [oD 17 (.mv (.t 0)),
oD 18 (.icall 41 [(.t 17)]),
oD 2 (.mv (.t 18)),
oD 3 (.mv (.k .nili))]
def d3_12 : AC := .reg d3l12
def d3_13 : AC := .seq d3_12 .ret
def d3_14 : AC := .seq d3_11 d3_13
def d3_15 : AC := .seq d3_0 d3_14
def ac_store_Store_Scan : AC := d3_15
theorem comp_store_Store_Scan : compF Tryz.prog [1000029, 4000037, 1000041] (drawR Tryz.prog [1000029, 4000037, 1000041] Tryz.f14.ntmps) [] 1 Tryz.f14 = some (ac_store_Store_Scan, [.t 2, .t 3]) := by kernel_rfl
def U_store_Store_Scan := J oA (J (J (J (J (J @ac_store_Store_Scan.eq_1 (@mR _ _ d3_0.eq_1)) (@mR _ _ d3_1.eq_1)) (J (J (@mR _ _ d3_2.eq_1) (@mU _ _ d3_3.eq_1)) (@mR _ _ d3_4.eq_1))) (J (J (J (@mR _ _ d3_5.eq_1) (@mU _ _ d3_6.eq_1)) (@mU _ _ d3_7.eq_1)) (J (J (@mU _ _ d3_8.eq_1) (@mU _ _ d3_9.eq_1)) (@mU _ _ d3_10.eq_1)))) (J (J (J (J (@mU _ _ d3_11.eq_1) (@mR _ _ d3_12.eq_1)) (@mU _ _ d3_13.eq_1)) (J (J (@mU _ _ d3_14.eq_1) (@mU _ _ d3_15.eq_1)) @d3l0.eq_1)) (J (J (J @d3l1.eq_1 @d3l2.eq_1) @d3l4.eq_1) (J @d3l5.eq_1 @d3l12.eq_1))))

/- (*scoria/store.Store).Worn -/
def d4l0 : List AOp := [oD 2 (.mv (.k (.bool false)))]
def d4_0 : AC := .reg d4l0
def d4l1t0 : List AOp := []
def d4l1t1 : List AOp := [oD 3 (.mv (.t 0)),
oD 4 (.isn .p false (.t 3)),
oD 5 (.mv (.t 4)),
oG 6 (.mv (.t 0)) 5 false,
oG 7 (.icall 61 [(.t 6)]) 5 false,
oG 8 (.mv (.t 0)) 5 false,
oG 9 (.nilck (.t 8)) 5 false,
oG 10 (.faddr 3 (.t 9)) 5 false,
oG 11 (.faddr 1 (.t 10)) 5 false,
oG 12 (.load none (.t 11)) 5 false,
oG 13 (.bin .gtr (.t 7) (.t 12)) 5 false,
oD 14 (.pick (.t 5) (.k (.bool true)) (.t 13)),
oD 2 (.mv (.t 14))]
def d4l1t2 : List AOp := [oD 3 (.mv (.t 0)),
oD 4 (.isn .p false (.t 3)),
oD 5 (.mv (.t 4)),
oG 8 (.mv (.t 0)) 5 false,
oG 9 (.nilck (.t 8)) 5 false,
oG 10 (.faddr 3 (.t 9)) 5 false,
oG 11 (.faddr 1 (.t 10)) 5 false,
oG 12 (.load none (.t 11)) 5 false,
oG 6 (.mv (.t 0)) 5 false,
oG 7 (.icall 61 [(.t 6)]) 5 false,
oG 13 (.bin .gtr (.t 7) (.t 12)) 5 false,
oD 14 (.pick (.t 5) (.k (.bool true)) (.t 13)),
oD 2 (.mv (.t 14))]
def d4_1 : AC := .dregs 0 (.node d4l1t0 (.leaf d4l1t1) (.leaf d4l1t2))
def d4_2 : AC := .seq d4_1 .ret
def d4_3 : AC := .seq d4_0 d4_2
def ac_store_Store_Worn : AC := d4_3
theorem comp_store_Store_Worn : compF Tryz.prog [1000061] (drawR Tryz.prog [1000061] Tryz.f24.ntmps) [] 1 Tryz.f24 = some (ac_store_Store_Worn, [.t 2]) := by kernel_rfl
def U_store_Store_Worn := J oA (J (J (J (J @ac_store_Store_Worn.eq_1 (@mR _ _ d4_0.eq_1)) (@mDN _ _ _ d4_1.eq_1)) (J (@mU _ _ d4_2.eq_1) (@mU _ _ d4_3.eq_1))) (J (J @d4l0.eq_1 @d4l1t0.eq_1) (J @d4l1t1.eq_1 @d4l1t2.eq_1)))

/- scoria/store.first -/
def d5l0 : List AOp := [oD 4 (.mv (.k (.int .i64 0)))]
def d5_0 : AC := .reg d5l0
def d5l1 : List AOp := [oD 6 (.mv (.t 0)),
oD 7 (.mv (.t 1)),
oD 8 (.rcall 74 [(.t 6), (.t 7)]),
oD 5 (.mv (.t 8))]
def d5_1 : AC := .reg d5l1
def d5l2 : List AOp := [oD 4 (.mv (.k (.int .i64 3)))]
def d5_2 : AC := .reg d5l2
def d5_3 : AC := .seq d5_2 .ret
def d5l4 : List AOp := [oD 10 (.mv (.t 0)),
oD 11 (.mv (.t 1)),
oD 12 (.rcall 75 [(.t 10), (.t 11)]),
oD 13 (.bin .eql (.t 12) (.k (.int .i64 0))),
oD 9 (.mv (.t 13))]
def d5_4 : AC := .reg d5l4
def d5l5 : List AOp := [oD 4 (.mv (.k (.int .i64 0)))]
def d5_5 : AC := .reg d5l5
def d5_6 : AC := .seq d5_5 .ret
def d5_7 : AC := .cond (.t 9) d5_6 .skip
def d5_8 : AC := .seq d5_4 d5_7
def d5_9 : AC := .cond (.t 5) d5_3 d5_8
def d5_10 : AC := .seq d5_1 d5_9
def d5_11 : AC := .block 0 d5_10
def d5l12 : List AOp := [oD 4 (.mv (.k (.int .i64 2)))]
def d5_12 : AC := .reg d5l12
def d5_13 : AC := .seq d5_12 .ret
def d5_14 : AC := .seq d5_11 d5_13
def d5_15 : AC := .seq d5_0 d5_14
def ac_store_first : AC := d5_15
theorem comp_store_first : compF Tryz.prog [4000074, 4000075] (drawR Tryz.prog [4000074, 4000075] Tryz.f40.ntmps) [] 2 Tryz.f40 = some (ac_store_first, [.t 4]) := by kernel_rfl
def U_store_first := J oA (J (J (J (J (J @ac_store_first.eq_1 (@mR _ _ d5_0.eq_1)) (@mR _ _ d5_1.eq_1)) (J (J (@mR _ _ d5_2.eq_1) (@mU _ _ d5_3.eq_1)) (@mR _ _ d5_4.eq_1))) (J (J (J (@mR _ _ d5_5.eq_1) (@mU _ _ d5_6.eq_1)) (@mU _ _ d5_7.eq_1)) (J (J (@mU _ _ d5_8.eq_1) (@mU _ _ d5_9.eq_1)) (@mU _ _ d5_10.eq_1)))) (J (J (J (J (@mU _ _ d5_11.eq_1) (@mR _ _ d5_12.eq_1)) (@mU _ _ d5_13.eq_1)) (J (J (@mU _ _ d5_14.eq_1) (@mU _ _ d5_15.eq_1)) @d5l0.eq_1)) (J (J (J @d5l1.eq_1 @d5l2.eq_1) @d5l4.eq_1) (J @d5l5.eq_1 @d5l12.eq_1))))

/- (*scoria/store.Store).scan -/
def d6l0 : List AOp := [oD 2 (.mv (.k (.slc [])))]
def d6_0 : AC := .reg d6l0
def d6l1 : List AOp := [oD 3 (.nilown 6)]
def d6_1 : AC := .reg d6l1
def d6l2 : List AOp := [oD 7 (.mv (.t 0)),
oD 8 (.nilck (.t 7)),
oD 9 (.faddr 3 (.t 8)),
oD 10 (.faddr 0 (.t 9)),
oD 11 (.load none (.t 10)),
oD 12 (.mv (.k (.int .i64 0)))]
def d6_2 : AC := .reg d6l2
def d6l3 : List AOp := [oD 13 (.bin .lss (.t 12) (.t 11))]
def d6_3 : AC := .reg d6l3
def d6_4 : AC := .cond (.t 13) .skip (.exit 0)
def d6l5 : List AOp := [oD 14 (.mv (.t 12)),
oD 4 (.mv (.t 14))]
def d6_5 : AC := .reg d6l5
def d6l6 : List AOp := [oD 16 (.mv (.t 0)),
oD 17 (.mv (.t 4)),
oD 18 (.icall 76 [(.t 16), (.t 17)]),
oD 15 (.mv (.t 18)),
oD 19 (.ext 0 (.t 15)),
oD 20 (.ext 1 (.t 15)),
oD 5 (.alloc [(.int .i64 0), (.int .i64 0), (.int .i64 0), (.int .i64 0), (.str [])]),
oN (.store 5 (.t 5) (.t 19)),
oD 6 (.mv (.t 20))]
def d6_6 : AC := .reg d6l6
def d6l7 : List AOp := [oD 21 (.mv (.t 6)),
oD 22 (.isn .i false (.t 21))]
def d6_7 : AC := .reg d6l7
def d6l8 : List AOp := [oD 23 (.mv (.t 3)),
oD 24 (.mv (.t 4)),
oD 25 (.load (some 5) (.t 5)),
oD 26 (.build [(.int .i64 0), (.int .i64 0), (.int .i64 0), (.int .i64 0), (.int .i64 0), (.str [])] [(0, 1, (.t 24)), (1, 5, (.t 25))]),
oD 27 (.blds false [(.int .i64 0), (.int .i64 0), (.int .i64 0), (.int .i64 0), (.int .i64 0), (.str [])] 1 [(0, (.t 26))]),
oD 28 (.app 6 56 [(.int .i64 0), (.int .i64 0), (.int .i64 0), (.int .i64 0), (.int .i64 0), (.str [])] (.t 23) (.t 27)),
oD 3 (.mv (.t 28))]
def d6_8 : AC := .reg d6l8
def d6_9 : AC := .cond (.t 22) d6_8 .skip
def d6_10 : AC := .seq d6_7 d6_9
def d6_11 : AC := .seq d6_6 d6_10
def d6_12 : AC := .seq d6_5 d6_11
def d6_13 : AC := .block 1 d6_12
def d6l14 : List AOp := [oD 29 (.bin .add (.t 12) (.k (.int .i64 1))),
oD 12 (.mv (.t 29))]
def d6_14 : AC := .reg d6l14
def d6_15 : AC := .seq d6_13 d6_14
def d6_16 : AC := .seq d6_4 d6_15
def d6_17 : AC := .seq d6_3 d6_16
def d6_18 : AC := .loop [0, 3, 11, 12] 1000000000 d6_17
def d6_19 : AC := .block 0 d6_18
def d6_20 : AC := .seq d6_2 d6_19
def d6l21 : List AOp := [oD 30 (.mv (.t 3)),
oD 2 (.mv (.t 30))]
def d6_21 : AC := .reg d6l21
def d6_22 : AC := .seq d6_21 .ret
def d6_23 : AC := .seq d6_20 d6_22
def d6_24 : AC := .seq d6_1 d6_23
def d6_25 : AC := .seq d6_0 d6_24
def ac_store_Store_scan : AC := d6_25
theorem comp_store_Store_scan : compF Tryz.prog [3, 1000076] (drawR Tryz.prog [3, 1000076] Tryz.f41.ntmps) [([0, 3, 11, 12], 1000000000)] 1 Tryz.f41 = some (ac_store_Store_scan, [.t 2]) := by kernel_rfl
def U_store_Store_scan := J oA (J (J (J (J (J (J @ac_store_Store_scan.eq_1 (@mR _ _ d6_0.eq_1)) (@mR _ _ d6_1.eq_1)) (J (@mR _ _ d6_2.eq_1) (@mR _ _ d6_3.eq_1))) (J (J (J (@mU _ _ d6_4.eq_1) (@mR _ _ d6_5.eq_1)) (@mR _ _ d6_6.eq_1)) (J (@mR _ _ d6_7.eq_1) (@mR _ _ d6_8.eq_1)))) (J (J (J (J (@mU _ _ d6_9.eq_1) (@mU _ _ d6_10.eq_1)) (@mU _ _ d6_11.eq_1)) (J (@mU _ _ d6_12.eq_1) (@mU _ _ d6_13.eq_1))) (J (J (@mR _ _ d6_14.eq_1) (@mU _ _ d6_15.eq_1)) (J (@mU _ _ d6_16.eq_1) (@mU _ _ d6_17.eq_1))))) (J (J (J (J (J (@mU _ _ d6_18.eq_1) (@mU _ _ d6_19.eq_1)) (@mU _ _ d6_20.eq_1)) (J (@mR _ _ d6_21.eq_1) (@mU _ _ d6_22.eq_1))) (J (J (@mU _ _ d6_23.eq_1) (@mU _ _ d6_24.eq_1)) (J (@mU _ _ d6_25.eq_1) @d6l0.eq_1))) (J (J (J (J @d6l1.eq_1 @d6l2.eq_1) @d6l3.eq_1) (J @d6l5.eq_1 @d6l6.eq_1)) (J (J @d6l7.eq_1 @d6l8.eq_1) (J @d6l14.eq_1 @d6l21.eq_1)))))

/- (*scoria/store.Store).append -/
def d7l0 : List AOp := [oD 3 (.box (.t 1)),
oD 4 (.mv (.k (.int .i64 0))),
oD 5 (.mv (.k .nili))]
def d7_0 : AC := .reg d7l0
def d7l1 : List AOp := [oD 13 (.mv (.t 0)),
oD 14 (.isn .p false (.t 13))]
def d7_1 : AC := .reg d7l1
def d7l2 : List AOp := [oD 15 (.mki 36 (.k (.int .i64 1))),
oD 4 (.mv (.k (.int .i64 0))),
oD 5 (.mv (.t 15))]
def d7_2 : AC := .reg d7l2
def d7_3 : AC := .seq d7_2 .ret
def d7_4 : AC := .cond (.t 14) d7_3 .skip
def d7_5 : AC := .seq d7_1 d7_4
def d7l6 : List AOp := [oD 16 (.faddr 3 (.t 3)),
oN (.store 1 (.t 16) (.k (.int .i64 0)))]
def d7_6 : AC := .reg d7l6
def d7l7 : List AOp := [oD 18 (.load (some 5) (.t 3)),
oD 19 (.call false 30 [(.t 18)]),
oD 17 (.mv (.t 19)),
oD 20 (.ext 0 (.t 17)),
oD 21 (.ext 1 (.t 17)),
oD 6 (.mv (.t 20)),
oD 7 (.mv (.t 21))]
def d7_7 : AC := .reg d7l7
def d7l8 : List AOp := [oD 22 (.mv (.t 7)),
oD 23 (.bin .neq (.t 22) (.k (.int .i64 0)))]
def d7_8 : AC := .reg d7l8
def d7l9 : List AOp := [oD 24 (.mv (.t 7)),
oD 25 (.mki 36 (.t 24)),
oD 4 (.mv (.k (.int .i64 0))),
oD 5 (.mv (.t 25))]
def d7_9 : AC := .reg d7l9
def d7_10 : AC := .seq d7_9 .ret
def d7_11 : AC := .cond (.t 23) d7_10 .skip
def d7_12 : AC := .seq d7_8 d7_11
def d7_13 : AC := .seq d7_7 d7_12
def d7l14 : List AOp := [oD 26 (.mv (.t 0)),
oD 27 (.nilck (.t 26)),
oD 28 (.faddr 11 (.t 27)),
oD 29 (.load none (.t 28)),
oD 30 (.bin .gtr (.t 29) (.k (.int .i64 281474976710655)))]
def d7_14 : AC := .reg d7l14
def d7l15 : List AOp := [oD 31 (.mki 36 (.k (.int .i64 2))),
oD 4 (.mv (.k (.int .i64 0))),
oD 5 (.mv (.t 31))]
def d7_15 : AC := .reg d7l15
def d7_16 : AC := .seq d7_15 .ret
def d7_17 : AC := .cond (.t 30) d7_16 .skip
def d7_18 : AC := .seq d7_14 d7_17
def d7l19 : List AOp := [oD 32 (.mv (.t 0)),
oD 33 (.nilck (.t 32)),
oD 34 (.faddr 11 (.t 33)),
oD 35 (.load none (.t 34)),
oD 36 (.faddr 3 (.t 3)),
oN (.store 1 (.t 36) (.t 35))]
def d7_19 : AC := .reg d7l19
def d7l20 : List AOp := [oD 38 (.load (some 5) (.t 3)),
oD 39 (.call false 30 [(.t 38)]),
oD 37 (.mv (.t 39)),
oD 40 (.ext 0 (.t 37)),
oD 41 (.ext 1 (.t 37)),
oD 8 (.mv (.t 40)),
oD 9 (.mv (.t 41))]
def d7_20 : AC := .reg d7l20
def d7l21 : List AOp := [oD 42 (.mv (.t 9)),
oD 43 (.bin .neq (.t 42) (.k (.int .i64 0)))]
def d7_21 : AC := .reg d7l21
def d7l22 : List AOp := [oD 44 (.mv (.t 9)),
oD 45 (.mki 36 (.t 44)),
oD 4 (.mv (.k (.int .i64 0))),
oD 5 (.mv (.t 45))]
def d7_22 : AC := .reg d7l22
def d7_23 : AC := .seq d7_22 .ret
def d7_24 : AC := .cond (.t 43) d7_23 .skip
def d7_25 : AC := .seq d7_21 d7_24
def d7l26 : List AOp := [oD 46 (.mv (.t 0)),
oD 47 (.nilck (.t 46)),
oD 48 (.faddr 0 (.t 47)),
oD 49 (.load none (.t 48)),
oD 50 (.rcall 83 [(.t 49)]),
oD 10 (.mv (.t 50))]
def d7_26 : AC := .reg d7l26
def d7l27 : List AOp := [oD 52 (.mv (.t 0)),
oD 53 (.mv (.t 8)),
oD 54 (.icall 84 [(.t 52), (.t 53)]),
oD 51 (.mv (.t 54)),
oD 55 (.ext 0 (.t 51)),
oD 56 (.ext 1 (.t 51)),
oD 11 (.mv (.t 55)),
oD 12 (.mv (.t 56))]
def d7_27 : AC := .reg d7l27
def d7l28 : List AOp := [oD 57 (.mv (.t 0)),
oD 58 (.nilck (.t 57)),
oD 59 (.faddr 0 (.t 58)),
oD 60 (.load none (.t 59)),
oD 61 (.rcall 83 [(.t 60)]),
oD 62 (.mv (.t 10)),
oD 63 (.bin .gtr (.t 61) (.t 62))]
def d7_28 : AC := .reg d7l28
def d7l29 : List AOp := [oD 64 (.mv (.t 0)),
oD 65 (.nilck (.t 64)),
oD 66 (.faddr 11 (.t 65)),
oD 67 (.load none (.t 66)),
oD 68 (.bin .add (.t 67) (.k (.int .i64 1))),
oD 69 (.nilck (.t 64)),
oD 70 (.faddr 11 (.t 69)),
oN (.store 1 (.t 70) (.t 68))]
def d7_29 : AC := .reg d7l29
def d7_30 : AC := .cond (.t 63) d7_29 .skip
def d7_31 : AC := .seq d7_28 d7_30
def d7l32 : List AOp := [oD 71 (.mv (.t 12)),
oD 72 (.isn .i true (.t 71))]
def d7_32 : AC := .reg d7l32
def d7l33 : List AOp := [oD 73 (.mv (.t 12)),
oD 74 (.rcall 85 [(.t 73)]),
oD 75 (.mki 36 (.t 74)),
oD 4 (.mv (.k (.int .i64 0))),
oD 5 (.mv (.t 75))]
def d7_33 : AC := .reg d7l33
def d7_34 : AC := .seq d7_33 .ret
def d7_35 : AC := .cond (.t 72) d7_34 .skip
def d7_36 : AC := .seq d7_32 d7_35
def d7l37 : List AOp := [oD 76 (.mv (.t 11)),
oD 4 (.mv (.t 76)),
oD 5 (.mv (.k .nili))]
def d7_37 : AC := .reg d7l37
def d7_38 : AC := .seq d7_37 .ret
def d7_39 : AC := .seq d7_36 d7_38
def d7_40 : AC := .seq d7_31 d7_39
def d7_41 : AC := .seq d7_27 d7_40
def d7_42 : AC := .seq d7_26 d7_41
def d7_43 : AC := .seq d7_25 d7_42
def d7_44 : AC := .seq d7_20 d7_43
def d7_45 : AC := .seq d7_19 d7_44
def d7_46 : AC := .seq d7_18 d7_45
def d7_47 : AC := .seq d7_13 d7_46
def d7_48 : AC := .seq d7_6 d7_47
def d7_49 : AC := .seq d7_5 d7_48
def d7_50 : AC := .seq d7_0 d7_49
def ac_store_Store_append : AC := d7_50
theorem comp_store_Store_append : compF Tryz.prog [4000083, 1000084, 4000085] (drawR Tryz.prog [4000083, 1000084, 4000085] Tryz.f46.ntmps) [] 2 Tryz.f46 = some (ac_store_Store_append, [.t 4, .t 5]) := by kernel_rfl
def U_store_Store_append := J oA (J (J (J (J (J (J (J @ac_store_Store_append.eq_1 (@mR _ _ d7_0.eq_1)) (@mR _ _ d7_1.eq_1)) (J (@mR _ _ d7_2.eq_1) (@mU _ _ d7_3.eq_1))) (J (J (@mU _ _ d7_4.eq_1) (@mU _ _ d7_5.eq_1)) (J (@mR _ _ d7_6.eq_1) (@mR _ _ d7_7.eq_1)))) (J (J (J (J (@mR _ _ d7_8.eq_1) (@mR _ _ d7_9.eq_1)) (@mU _ _ d7_10.eq_1)) (J (@mU _ _ d7_11.eq_1) (@mU _ _ d7_12.eq_1))) (J (J (@mU _ _ d7_13.eq_1) (@mR _ _ d7_14.eq_1)) (J (@mR _ _ d7_15.eq_1) (@mU _ _ d7_16.eq_1))))) (J (J (J (J (J (@mU _ _ d7_17.eq_1) (@mU _ _ d7_18.eq_1)) (@mR _ _ d7_19.eq_1)) (J (@mR _ _ d7_20.eq_1) (@mR _ _ d7_21.eq_1))) (J (J (@mR _ _ d7_22.eq_1) (@mU _ _ d7_23.eq_1)) (J (@mU _ _ d7_24.eq_1) (@mU _ _ d7_25.eq_1)))) (J (J (J (J (@mR _ _ d7_26.eq_1) (@mR _ _ d7_27.eq_1)) (@mR _ _ d7_28.eq_1)) (J (@mR _ _ d7_29.eq_1) (@mU _ _ d7_30.eq_1))) (J (J (@mU _ _ d7_31.eq_1) (@mR _ _ d7_32.eq_1)) (J (@mR _ _ d7_33.eq_1) (@mU _ _ d7_34.eq_1)))))) (J (J (J (J (J (J (@mU _ _ d7_35.eq_1) (@mU _ _ d7_36.eq_1)) (@mR _ _ d7_37.eq_1)) (J (@mU _ _ d7_38.eq_1) (@mU _ _ d7_39.eq_1))) (J (J (@mU _ _ d7_40.eq_1) (@mU _ _ d7_41.eq_1)) (J (@mU _ _ d7_42.eq_1) (@mU _ _ d7_43.eq_1)))) (J (J (J (J (@mU _ _ d7_44.eq_1) (@mU _ _ d7_45.eq_1)) (@mU _ _ d7_46.eq_1)) (J (@mU _ _ d7_47.eq_1) (@mU _ _ d7_48.eq_1))) (J (J (@mU _ _ d7_49.eq_1) (@mU _ _ d7_50.eq_1)) (J @d7l0.eq_1 @d7l1.eq_1)))) (J (J (J (J (J @d7l2.eq_1 @d7l6.eq_1) @d7l7.eq_1) (J @d7l8.eq_1 @d7l9.eq_1)) (J (J @d7l14.eq_1 @d7l15.eq_1) (J @d7l19.eq_1 @d7l20.eq_1))) (J (J (J (J @d7l21.eq_1 @d7l22.eq_1) @d7l26.eq_1) (J @d7l27.eq_1 @d7l28.eq_1)) (J (J @d7l29.eq_1 @d7l32.eq_1) (J @d7l33.eq_1 @d7l37.eq_1))))))

/- (*scoria/store.Store).Retired -/
def d8l0 : List AOp := [oD 2 (.mv (.k (.int .i64 0)))]
def d8_0 : AC := .reg d8l0
def d8l1 : List AOp := [oD 3 (.mv (.t 0)),
oD 4 (.icall 103 [(.t 3)]),
oD 5 (.call false 102 [(.t 4), (.k (.int .i64 3))]),
oD 2 (.mv (.t 5))]
def d8_1 : AC := .reg d8l1
def d8_2 : AC := .seq d8_1 .ret
def d8_3 : AC := .seq d8_0 d8_2
def ac_store_Store_Retired : AC := d8_3
theorem comp_store_Store_Retired : compF Tryz.prog [1000103] (drawR Tryz.prog [1000103] Tryz.f61.ntmps) [] 1 Tryz.f61 = some (ac_store_Store_Retired, [.t 2]) := by kernel_rfl
def U_store_Store_Retired := J oA (J (J (J @ac_store_Store_Retired.eq_1 (@mR _ _ d8_0.eq_1)) (J (@mR _ _ d8_1.eq_1) (@mU _ _ d8_2.eq_1))) (J (J (@mU _ _ d8_3.eq_1) @d8l0.eq_1) @d8l1.eq_1))

/- (*scoria/store.Store).read -/
def d9l0 : List AOp := [oD 4 (.alloc [(.int .i64 0), (.int .i64 0), (.int .i64 0), (.int .i64 0), (.str [])]),
oD 5 (.mv (.k .nili))]
def d9_0 : AC := .reg d9l0
def d9l1 : List AOp := [oD 11 (.mv (.t 0)),
oD 12 (.nilck (.t 11)),
oD 13 (.faddr 0 (.t 12)),
oD 14 (.load none (.t 13)),
oD 15 (.mv (.t 1)),
oD 16 (.icall 32 [(.t 14), (.t 15)]),
oD 10 (.mv (.t 16)),
oD 17 (.ext 0 (.t 10)),
oD 18 (.ext 1 (.t 10)),
oD 6 (.mv (.t 17)),
oD 7 (.mv (.t 18))]
def d9_1 : AC := .reg d9l1
def d9l2 : List AOp := [oD 19 (.mv (.t 7)),
oD 20 (.isn .i true (.t 19))]
def d9_2 : AC := .reg d9l2
def d9l3 : List AOp := [oD 21 (.build [(.int .i64 0), (.int .i64 0), (.int .i64 0), (.int .i64 0), (.str [])] []),
oD 22 (.mv (.t 7)),
oD 23 (.rcall 85 [(.t 22)]),
oD 24 (.mki 36 (.t 23)),
oN (.store 5 (.t 4) (.t 21)),
oD 5 (.mv (.t 24))]
def d9_3 : AC := .reg d9l3
def d9_4 : AC := .seq d9_3 .ret
def d9_5 : AC := .cond (.t 20) d9_4 .skip
def d9_6 : AC := .seq d9_2 d9_5
def d9l7 : List AOp := [oD 26 (.mv (.t 6)),
oD 27 (.call false 8 [(.t 26)]),
oD 25 (.mv (.t 27)),
oD 28 (.ext 0 (.t 25)),
oD 29 (.ext 1 (.t 25)),
oD 8 (.alloc [(.int .i64 0), (.int .i64 0), (.int .i64 0), (.int .i64 0), (.str [])]),
oN (.store 5 (.t 8) (.t 28)),
oD 9 (.mv (.t 29))]
def d9_7 : AC := .reg d9l7
def d9l8 : List AOp := [oD 30 (.mv (.t 9)),
oD 31 (.bin .neq (.t 30) (.k (.int .i64 0)))]
def d9_8 : AC := .reg d9l8
def d9l9 : List AOp := [oD 32 (.build [(.int .i64 0), (.int .i64 0), (.int .i64 0), (.int .i64 0), (.str [])] []),
oD 33 (.mv (.t 9)),
oD 34 (.mki 36 (.t 33)),
oN (.store 5 (.t 4) (.t 32)),
oD 5 (.mv (.t 34))]
def d9_9 : AC := .reg d9l9
def d9_10 : AC := .seq d9_9 .ret
def d9_11 : AC := .cond (.t 31) d9_10 .skip
def d9_12 : AC := .seq d9_8 d9_11
def d9l13 : List AOp := [oD 35 (.load (some 5) (.t 8)),
oN (.store 5 (.t 4) (.t 35)),
oD 5 (.mv (.k .nili))]
def d9_13 : AC := .reg d9l13
def d9_14 : AC := .seq d9_13 .ret
def d9_15 : AC := .seq d9_12 d9_14
def d9_16 : AC := .seq d9_7 d9_15
def d9_17 : AC := .seq d9_6 d9_16
def d9_18 : AC := .seq d9_1 d9_17
def d9_19 : AC := .seq d9_0 d9_18
def ac_store_Store_read : AC := d9_19
theorem comp_store_Store_read : compF Tryz.prog [1000032, 4000085] (drawR Tryz.prog [1000032, 4000085] Tryz.f76.ntmps) [] 2 Tryz.f76 = some (ac_store_Store_read, [.c 4 (some 5), .t 5]) := by kernel_rfl
def U_store_Store_read := J oA (J (J (J (J (J @ac_store_Store_read.eq_1 (@mR _ _ d9_0.eq_1)) (J (@mR _ _ d9_1.eq_1) (@mR _ _ d9_2.eq_1))) (J (J (@mR _ _ d9_3.eq_1) (@mU _ _ d9_4.eq_1)) (J (@mU _ _ d9_5.eq_1) (@mU _ _ d9_6.eq_1)))) (J (J (J (@mR _ _ d9_7.eq_1) (@mR _ _ d9_8.eq_1)) (J (@mR _ _ d9_9.eq_1) (@mU _ _ d9_10.eq_1))) (J (J (@mU _ _ d9_11.eq_1) (@mU _ _ d9_12.eq_1)) (@mR _ _ d9_13.eq_1)))) (J (J (J (J (@mU _ _ d9_14.eq_1) (@mU _ _ d9_15.eq_1)) (J (@mU _ _ d9_16.eq_1) (@mU _ _ d9_17.eq_1))) (J (J (@mU _ _ d9_18.eq_1) (@mU _ _ d9_19.eq_1)) @d9l0.eq_1)) (J (J (J @d9l1.eq_1 @d9l2.eq_1) (J @d9l3.eq_1 @d9l7.eq_1)) (J (J @d9l8.eq_1 @d9l9.eq_1) @d9l13.eq_1))))

/- (*scoria/store.Store).put -/
def d10l0 : List AOp := [oD 4 (.mv (.k (.int .i64 0))),
oD 5 (.mv (.k .nili))]
def d10_0 : AC := .reg d10l0
def d10l1 : List AOp := [oD 8 (.mv (.t 0)),
oD 9 (.rcall 24 [(.t 8)]),
oD 10 (.un .not (.t 9))]
def d10_1 : AC := .reg d10l1
def d10_2 : AC := .cond (.t 10) .skip (.exit 0)
def d10_3 : AC := .seq d10_1 d10_2
def d10l4 : List AOp := [oD 12 (.mv (.t 0)),
oD 13 (.icall 119 [(.t 12)]),
oD 11 (.mv (.t 13)),
oD 14 (.ext 0 (.t 11)),
oD 15 (.ext 1 (.t 11)),
oD 6 (.mv (.t 14)),
oD 7 (.mv (.t 15))]
def d10_4 : AC := .reg d10l4
def d10l5 : List AOp := [oD 16 (.mv (.t 7)),
oD 17 (.isn .i true (.t 16))]
def d10_5 : AC := .reg d10l5
def d10l6 : List AOp := [oD 18 (.mv (.t 7)),
oD 4 (.mv (.k (.int .i64 0))),
oD 5 (.mv (.t 18))]
def d10_6 : AC := .reg d10l6
def d10_7 : AC := .seq d10_6 .ret
def d10_8 : AC := .cond (.t 17) d10_7 .skip
def d10_9 : AC := .seq d10_5 d10_8
def d10l10 : List AOp := [oD 19 (.mv (.t 0)),
oD 20 (.nilck (.t 19)),
oD 21 (.faddr 0 (.t 20)),
oD 22 (.load none (.t 21)),
oD 23 (.mv (.t 6)),
oD 24 (.mv (.t 1)),
oD 25 (.icall 31 [(.t 22), (.t 23), (.t 24)]),
oD 7 (.mv (.t 25))]
def d10_10 : AC := .reg d10l10
def d10l11 : List AOp := [oD 26 (.mv (.t 7)),
oD 27 (.mki 36 (.k (.int .i64 41))),
oD 28 (.rcall 120 [(.t 26), (.t 27)]),
oD 29 (.un .not (.t 28))]
def d10_11 : AC := .reg d10l11
def d10l12 : List AOp := [oD 30 (.mv (.t 6)),
oD 31 (.mv (.t 7)),
oD 4 (.mv (.t 30)),
oD 5 (.mv (.t 31))]
def d10_12 : AC := .reg d10l12
def d10_13 : AC := .seq d10_12 .ret
def d10_14 : AC := .cond (.t 29) d10_13 .skip
def d10_15 : AC := .seq d10_11 d10_14
def d10l16 : List AOp := [oD 32 (.mv (.t 0)),
oD 33 (.mv (.t 0)),
oD 34 (.nilck (.t 33)),
oD 35 (.faddr 1 (.t 34)),
oD 36 (.load (some 2) (.t 35)),
oD 37 (.mv (.t 6)),
oD 38 (.call false 122 [(.t 36), (.t 37)]),
oD 39 (.icall 121 [(.t 32), (.t 38)])]
def d10_16 : AC := .reg d10l16
def d10_17 : AC := .seq d10_15 d10_16
def d10_18 : AC := .seq d10_10 d10_17
def d10_19 : AC := .seq d10_9 d10_18
def d10_20 : AC := .seq d10_4 d10_19
def d10_21 : AC := .block 1 d10_20
def d10_22 : AC := .seq d10_3 d10_21
def d10_23 : AC := .loop [0, 1] 1000000000 d10_22
def d10_24 : AC := .block 0 d10_23
def d10l25 : List AOp := [oD 40 (.mki 36 (.k (.int .i64 61))),
oD 4 (.mv (.k (.int .i64 0))),
oD 5 (.mv (.t 40))]
def d10_25 : AC := .reg d10l25
def d10_26 : AC := .seq d10_25 .ret
def d10_27 : AC := .seq d10_24 d10_26
def d10_28 : AC := .seq d10_0 d10_27
def ac_store_Store_put : AC := d10_28
theorem comp_store_Store_put : compF Tryz.prog [4000024, 1000119, 1000031, 4000120, 1000121] (drawR Tryz.prog [4000024, 1000119, 1000031, 4000120, 1000121] Tryz.f84.ntmps) [([0, 1], 1000000000)] 2 Tryz.f84 = some (ac_store_Store_put, [.t 4, .t 5]) := by kernel_rfl
def U_store_Store_put := J oA (J (J (J (J (J (J @ac_store_Store_put.eq_1 (@mR _ _ d10_0.eq_1)) (@mR _ _ d10_1.eq_1)) (J (@mU _ _ d10_2.eq_1) (@mU _ _ d10_3.eq_1))) (J (J (J (@mR _ _ d10_4.eq_1) (@mR _ _ d10_5.eq_1)) (@mR _ _ d10_6.eq_1)) (J (@mU _ _ d10_7.eq_1) (@mU _ _ d10_8.eq_1)))) (J (J (J (J (@mU _ _ d10_9.eq_1) (@mR _ _ d10_10.eq_1)) (@mR _ _ d10_11.eq_1)) (J (@mR _ _ d10_12.eq_1) (@mU _ _ d10_13.eq_1))) (J (J (J (@mU _ _ d10_14.eq_1) (@mU _ _ d10_15.eq_1)) (@mR _ _ d10_16.eq_1)) (J (@mU _ _ d10_17.eq_1) (@mU _ _ d10_18.eq_1))))) (J (J (J (J (J (@mU _ _ d10_19.eq_1) (@mU _ _ d10_20.eq_1)) (@mU _ _ d10_21.eq_1)) (J (@mU _ _ d10_22.eq_1) (@mU _ _ d10_23.eq_1))) (J (J (J (@mU _ _ d10_24.eq_1) (@mR _ _ d10_25.eq_1)) (@mU _ _ d10_26.eq_1)) (J (@mU _ _ d10_27.eq_1) (@mU _ _ d10_28.eq_1)))) (J (J (J (J @d10l0.eq_1 @d10l1.eq_1) @d10l4.eq_1) (J @d10l5.eq_1 @d10l6.eq_1)) (J (J (J @d10l10.eq_1 @d10l11.eq_1) @d10l12.eq_1) (J @d10l16.eq_1 @d10l25.eq_1)))))

/- (*scoria/store.Store).Table -/
def d11l0 : List AOp := [oD 2 (.mv (.k (.slc [])))]
def d11_0 : AC := .reg d11l0
def d11l1 : List AOp := [oD 6 (.mv (.t 0)),
oD 7 (.isn .p false (.t 6))]
def d11_1 : AC := .reg d11l1
def d11l2 : List AOp := [oD 2 (.mv (.k (.slc [])))]
def d11_2 : AC := .reg d11l2
def d11_3 : AC := .seq d11_2 .ret
def d11_4 : AC := .cond (.t 7) d11_3 .skip
def d11_5 : AC := .seq d11_1 d11_4
def d11l6 : List AOp := [oD 3 (.nilown 3)]
def d11_6 : AC := .reg d11l6
def d11l7 : List AOp := [oD 8 (.mv (.t 0)),
oD 9 (.nilck (.t 8)),
oD 10 (.faddr 8 (.t 9)),
oD 11 (.load none (.t 10)),
oD 12 (.len (.t 11)),
oD 13 (.mv (.k (.int .i64 0)))]
def d11_7 : AC := .reg d11l7
def d11l8 : List AOp := [oD 14 (.bin .lss (.t 13) (.t 12))]
def d11_8 : AC := .reg d11l8
def d11_9 : AC := .cond (.t 14) .skip (.exit 0)
def d11l10 : List AOp := [oD 15 (.mv (.t 13)),
oD 16 (.isl 1 (.t 11) (.t 13)),
oD 17 (.load none (.t 16)),
oD 4 (.mv (.t 15)),
oD 5 (.mv (.t 17))]
def d11_10 : AC := .reg d11l10
def d11l11 : List AOp := [oD 18 (.mv (.t 3)),
oD 19 (.mv (.t 5)),
oD 20 (.mv (.t 0)),
oD 21 (.nilck (.t 20)),
oD 22 (.faddr 9 (.t 21)),
  ⟨(some 23), .load none (.t 22), none, none, [0], none⟩,
oD 24 (.mv (.t 4)),
  ⟨(some 25), .isl 1 (.t 23) (.t 24), none, none, [0], none⟩,
  ⟨(some 26), .load none (.t 25), none, none, [0], none⟩,
oD 27 (.mv (.t 0)),
oD 28 (.nilck (.t 27)),
oD 29 (.faddr 0 (.t 28)),
  ⟨(some 30), .load none (.t 29), none, none, [0], none⟩,
oD 31 (.mv (.t 4)),
  ⟨(some 32), .rcall 140 [(.t 30), (.t 31)], none, none, [0], none⟩,
oD 33 (.build [(.int .i64 0), (.int .i64 0), (.int .i64 0)] [(0, 1, (.t 19)), (1, 1, (.t 26)), (2, 1, (.t 32))]),
  ⟨(some 34), .blds false [(.int .i64 0), (.int .i64 0), (.int .i64 0)] 1 [(0, (.t 33))], none, none, [0], none⟩,
  ⟨(some 35), .app 3 24 [(.int .i64 0), (.int .i64 0), (.int .i64 0)] (.t 18) (.t 34), none, (some 0), [], none⟩,
oD 3 (.mv (.t 35))]
def d11_11 : AC := .dreg 1 d11l11
def d11_12 : AC := .seq d11_10 d11_11
def d11_13 : AC := .block 1 d11_12
def d11l14 : List AOp := [oD 36 (.bin .add (.t 13) (.k (.int .i64 1))),
oD 13 (.mv (.t 36))]
def d11_14 : AC := .reg d11l14
def d11_15 : AC := .seq d11_13 d11_14
def d11_16 : AC := .seq d11_9 d11_15
def d11_17 : AC := .seq d11_8 d11_16
def d11_18 : AC := .loop [0, 3, 11, 12, 13] 1000000000 d11_17
def d11_19 : AC := .block 0 d11_18
def d11_20 : AC := .seq d11_7 d11_19
def d11l21 : List AOp := [oD 37 (.mv (.t 3)),
oD 2 (.mv (.t 37))]
def d11_21 : AC := .reg d11l21
def d11_22 : AC := .seq d11_21 .ret
def d11_23 : AC := .seq d11_20 d11_22
def d11_24 : AC := .seq d11_6 d11_23
def d11_25 : AC := .seq d11_5 d11_24
def d11_26 : AC := .seq d11_0 d11_25
def ac_store_Store_Table : AC := d11_26
theorem comp_store_Store_Table : compF Tryz.prog [3, 4000140] (drawR Tryz.prog [3, 4000140] Tryz.f103.ntmps) [([0, 3, 11, 12, 13], 1000000000)] 1 Tryz.f103 = some (ac_store_Store_Table, [.t 2]) := by kernel_rfl
def U_store_Store_Table := J oA (J (J (J (J (J (J @ac_store_Store_Table.eq_1 (@mR _ _ d11_0.eq_1)) (@mR _ _ d11_1.eq_1)) (J (@mR _ _ d11_2.eq_1) (@mU _ _ d11_3.eq_1))) (J (J (J (@mU _ _ d11_4.eq_1) (@mU _ _ d11_5.eq_1)) (@mR _ _ d11_6.eq_1)) (J (@mR _ _ d11_7.eq_1) (@mR _ _ d11_8.eq_1)))) (J (J (J (J (@mU _ _ d11_9.eq_1) (@mR _ _ d11_10.eq_1)) (@mD _ _ _ d11_11.eq_1)) (J (@mU _ _ d11_12.eq_1) (@mU _ _ d11_13.eq_1))) (J (J (@mR _ _ d11_14.eq_1) (@mU _ _ d11_15.eq_1)) (J (@mU _ _ d11_16.eq_1) (@mU _ _ d11_17.eq_1))))) (J (J (J (J (J (@mU _ _ d11_18.eq_1) (@mU _ _ d11_19.eq_1)) (@mU _ _ d11_20.eq_1)) (J (@mR _ _ d11_21.eq_1) (@mU _ _ d11_22.eq_1))) (J (J (J (@mU _ _ d11_23.eq_1) (@mU _ _ d11_24.eq_1)) (@mU _ _ d11_25.eq_1)) (J (@mU _ _ d11_26.eq_1) @d11l0.eq_1))) (J (J (J (J @d11l1.eq_1 @d11l2.eq_1) @d11l6.eq_1) (J @d11l7.eq_1 @d11l8.eq_1)) (J (J @d11l10.eq_1 @d11l11.eq_1) (J @d11l14.eq_1 @d11l21.eq_1)))))

/- (*scoria/store.Store).place -/
def d12l0 : List AOp := [oD 2 (.mv (.k (.int .i64 0))),
oD 3 (.mv (.k .nili))]
def d12_0 : AC := .reg d12l0
def d12l1 : List AOp := [oD 4 (.mv (.t 0)),
oD 5 (.nilck (.t 4)),
oD 6 (.faddr 10 (.t 5)),
oD 7 (.load none (.t 6)),
oD 8 (.bin .geq (.t 7) (.k (.int .i64 0))),
oD 9 (.mv (.t 8)),
oG 10 (.mv (.t 0)) 9 true,
oG 11 (.nilck (.t 10)) 9 true,
oG 12 (.faddr 0 (.t 11)) 9 true,
oG 13 (.load none (.t 12)) 9 true,
oG 14 (.mv (.t 0)) 9 true,
oG 15 (.nilck (.t 14)) 9 true,
oG 16 (.faddr 10 (.t 15)) 9 true,
oG 17 (.load none (.t 16)) 9 true,
oG 18 (.rcall 75 [(.t 13), (.t 17)]) 9 true,
oG 19 (.mv (.t 0)) 9 true,
oG 20 (.nilck (.t 19)) 9 true,
oG 21 (.faddr 1 (.t 20)) 9 true,
oG 22 (.faddr 1 (.t 21)) 9 true,
oG 23 (.load none (.t 22)) 9 true,
oG 24 (.bin .geq (.t 18) (.t 23)) 9 true,
oD 25 (.pick (.t 9) (.t 24) (.k (.bool false)))]
def d12_1 : AC := .dreg 0 d12l1
def d12l2 : List AOp := [oD 26 (.mv (.t 0)),
oD 27 (.icall 149 [(.t 26)])]
def d12_2 : AC := .reg d12l2
def d12_3 : AC := .cond (.t 25) d12_2 .skip
def d12_4 : AC := .seq d12_1 d12_3
def d12l5 : List AOp := [oD 28 (.mv (.t 0)),
oD 29 (.nilck (.t 28)),
oD 30 (.faddr 10 (.t 29)),
oD 31 (.load none (.t 30)),
oD 32 (.bin .lss (.t 31) (.k (.int .i64 0)))]
def d12_5 : AC := .reg d12l5
def d12l6 : List AOp := [oD 33 (.mv (.t 0)),
oD 34 (.mv (.t 0)),
oD 35 (.icall 103 [(.t 34)]),
oD 36 (.call false 150 [(.t 35)]),
oD 37 (.nilck (.t 33)),
oD 38 (.faddr 10 (.t 37)),
oN (.store 1 (.t 38) (.t 36))]
def d12_6 : AC := .reg d12l6
def d12l7 : List AOp := [oD 39 (.mv (.t 0)),
oD 40 (.nilck (.t 39)),
oD 41 (.faddr 10 (.t 40)),
oD 42 (.load none (.t 41)),
oD 43 (.bin .lss (.t 42) (.k (.int .i64 0)))]
def d12_7 : AC := .reg d12l7
def d12l8 : List AOp := [oD 44 (.mki 36 (.k (.int .i64 60))),
oD 2 (.mv (.k (.int .i64 0))),
oD 3 (.mv (.t 44))]
def d12_8 : AC := .reg d12l8
def d12_9 : AC := .seq d12_8 .ret
def d12_10 : AC := .cond (.t 43) d12_9 .skip
def d12_11 : AC := .seq d12_7 d12_10
def d12l12 : List AOp := [oD 45 (.mv (.t 0)),
oD 46 (.nilck (.t 45)),
oD 47 (.faddr 8 (.t 46)),
oD 48 (.load none (.t 47)),
oD 49 (.mv (.t 0)),
oD 50 (.nilck (.t 49)),
oD 51 (.faddr 10 (.t 50)),
oD 52 (.load none (.t 51)),
oD 53 (.isl 1 (.t 48) (.t 52)),
oN (.store 1 (.t 53) (.k (.int .i64 1)))]
def d12_12 : AC := .dreg 0 d12l12
def d12_13 : AC := .seq d12_11 d12_12
def d12_14 : AC := .seq d12_6 d12_13
def d12_15 : AC := .cond (.t 32) d12_14 .skip
def d12_16 : AC := .seq d12_5 d12_15
def d12l17 : List AOp := [oD 54 (.mv (.t 0)),
oD 55 (.nilck (.t 54)),
oD 56 (.faddr 1 (.t 55)),
oD 57 (.load (some 2) (.t 56)),
oD 58 (.mv (.t 0)),
oD 59 (.nilck (.t 58)),
oD 60 (.faddr 10 (.t 59)),
oD 61 (.load none (.t 60)),
oD 62 (.call false 151 [(.t 57), (.t 61)]),
oD 63 (.mv (.t 0)),
oD 64 (.nilck (.t 63)),
oD 65 (.faddr 0 (.t 64)),
oD 66 (.load none (.t 65)),
oD 67 (.mv (.t 0)),
oD 68 (.nilck (.t 67)),
oD 69 (.faddr 10 (.t 68)),
oD 70 (.load none (.t 69)),
oD 71 (.rcall 75 [(.t 66), (.t 70)]),
oD 72 (.bin .add (.t 62) (.t 71)),
oD 2 (.mv (.t 72)),
oD 3 (.mv (.k .nili))]
def d12_17 : AC := .dreg 0 d12l17
def d12_18 : AC := .seq d12_17 .ret
def d12_19 : AC := .seq d12_16 d12_18
def d12_20 : AC := .seq d12_4 d12_19
def d12_21 : AC := .seq d12_0 d12_20
def ac_store_Store_place : AC := d12_21
theorem comp_store_Store_place : compF Tryz.prog [4000075, 1000149, 1000103] (drawR Tryz.prog [4000075, 1000149, 1000103] Tryz.f119.ntmps) [] 1 Tryz.f119 = some (ac_store_Store_place, [.t 2, .t 3]) := by kernel_rfl
def U_store_Store_place := J oA (J (J (J (J (J @ac_store_Store_place.eq_1 (@mR _ _ d12_0.eq_1)) (J (@mD _ _ _ d12_1.eq_1) (@mR _ _ d12_2.eq_1))) (J (J (@mU _ _ d12_3.eq_1) (@mU _ _ d12_4.eq_1)) (J (@mR _ _ d12_5.eq_1) (@mR _ _ d12_6.eq_1)))) (J (J (J (@mR _ _ d12_7.eq_1) (@mR _ _ d12_8.eq_1)) (J (@mU _ _ d12_9.eq_1) (@mU _ _ d12_10.eq_1))) (J (J (@mU _ _ d12_11.eq_1) (@mD _ _ _ d12_12.eq_1)) (J (@mU _ _ d12_13.eq_1) (@mU _ _ d12_14.eq_1))))) (J (J (J (J (@mU _ _ d12_15.eq_1) (@mU _ _ d12_16.eq_1)) (J (@mD _ _ _ d12_17.eq_1) (@mU _ _ d12_18.eq_1))) (J (J (@mU _ _ d12_19.eq_1) (@mU _ _ d12_20.eq_1)) (J (@mU _ _ d12_21.eq_1) @d12l0.eq_1))) (J (J (J @d12l1.eq_1 @d12l2.eq_1) (J @d12l5.eq_1 @d12l6.eq_1)) (J (J @d12l7.eq_1 @d12l8.eq_1) (J @d12l12.eq_1 @d12l17.eq_1)))))

/- (*scoria/store.Store).Seal -/
def d14l0 : List AOp := [oD 2 (.mv (.t 0)),
oD 3 (.isn .p true (.t 2)),
oD 4 (.mv (.t 3)),
oG 5 (.mv (.t 0)) 4 true,
oG 6 (.nilck (.t 5)) 4 true,
oG 7 (.faddr 10 (.t 6)) 4 true,
oG 8 (.load none (.t 7)) 4 true,
oG 9 (.bin .geq (.t 8) (.k (.int .i64 0))) 4 true,
oD 10 (.pick (.t 4) (.t 9) (.k (.bool false)))]
def d14_0 : AC := .reg d14l0
def d14l1 : List AOp := [oD 11 (.mv (.t 0)),
oD 12 (.nilck (.t 11)),
oD 13 (.faddr 8 (.t 12)),
oD 14 (.load none (.t 13)),
oD 15 (.mv (.t 0)),
oD 16 (.nilck (.t 15)),
oD 17 (.faddr 10 (.t 16)),
oD 18 (.load none (.t 17)),
oD 19 (.isl 1 (.t 14) (.t 18)),
oN (.store 1 (.t 19) (.k (.int .i64 2)))]
def d14_1 : AC := .dreg 0 d14l1
def d14l2 : List AOp := [oD 20 (.mv (.t 0)),
oD 21 (.nilck (.t 20)),
oD 22 (.faddr 10 (.t 21)),
oN (.store 1 (.t 22) (.k (.int .i64 (-1))))]
def d14_2 : AC := .reg d14l2
def d14_3 : AC := .seq d14_1 d14_2
def d14_4 : AC := .cond (.t 10) d14_3 .skip
def d14_5 : AC := .seq d14_0 d14_4
def ac_store_Store_Seal : AC := d14_5
theorem comp_store_Store_Seal : compF Tryz.prog [] (drawR Tryz.prog [] Tryz.f149.ntmps) [] 1 Tryz.f149 = some (ac_store_Store_Seal, []) := by kernel_rfl
def U_store_Store_Seal := J oA (J (J (J (J @ac_store_Store_Seal.eq_1 (@mR _ _ d14_0.eq_1)) (@mD _ _ _ d14_1.eq_1)) (J (@mR _ _ d14_2.eq_1) (@mU _ _ d14_3.eq_1))) (J (J (J (@mU _ _ d14_4.eq_1) (@mU _ _ d14_5.eq_1)) @d14l0.eq_1) (J @d14l1.eq_1 @d14l2.eq_1)))

end Go.Proofs.YtdgpiobmncohjaaGreatDoor.Aw
namespace Go.Proofs.YtdgpiobmncohjaaGreatDoor.Aw
open Go.RowKit
/- scoria/scoriatop.TopNewest -/
def e0l0 : List AOp := [oD 3 (.box (.t 1)),
oD 4 (.mv (.k (.bool false)))]
def e0_0 : AC := .reg e0l0
def e0l1 : List AOp := [oD 25 (.call false 6 []),
oD 26 (.icall 5 [(.t 25)]),
oD 24 (.mv (.t 26)),
oD 27 (.ext 0 (.t 24)),
oD 28 (.ext 1 (.t 24)),
oD 5 (.mv (.t 27)),
oD 6 (.mv (.t 28))]
def e0_1 : AC := .reg e0l1
def e0l2 : List AOp := [oD 29 (.call false 7 []),
oD 30 (.un .not (.t 29)),
oD 31 (.mv (.t 30)),
oG 32 (.mv (.t 6)) 31 false,
oG 33 (.isn .i true (.t 32)) 31 false,
oD 34 (.pick (.t 31) (.k (.bool true)) (.t 33))]
def e0_2 : AC := .reg e0l2
def e0l3 : List AOp := [oD 4 (.mv (.k (.bool false)))]
def e0_3 : AC := .reg e0l3
def e0_4 : AC := .seq e0_3 .ret
def e0_5 : AC := .cond (.t 34) e0_4 .skip
def e0_6 : AC := .seq e0_2 e0_5
def e0l7 : List AOp := [oD 36 (.faddr 3 (.t 3)),
oD 37 (.load none (.t 36)),
oD 38 (.call false 8 [(.t 37)]),
oD 35 (.mv (.t 38)),
oD 39 (.ext 0 (.t 35)),
oD 40 (.ext 1 (.t 35)),
oD 7 (.alloc [(.int .i64 0), (.int .i64 0), (.int .i64 0), (.int .i64 0), (.str [])]),
oN (.store 5 (.t 7) (.t 39)),
oD 8 (.mv (.t 40))]
def e0_7 : AC := .reg e0l7
def e0l8 : List AOp := [oD 41 (.faddr 3 (.t 3)),
oD 42 (.load none (.t 41)),
oD 43 (.lens (.t 42)),
oD 44 (.bin .gtr (.t 43) (.k (.int .i64 200))),
oD 45 (.mv (.t 44)),
oG 46 (.mv (.t 8)) 45 false,
oG 47 (.bin .eql (.t 46) (.k (.int .i64 0))) 45 false,
oD 48 (.pick (.t 45) (.k (.bool true)) (.t 47))]
def e0_8 : AC := .reg e0l8
def e0l9 : List AOp := [oD 4 (.mv (.k (.bool true)))]
def e0_9 : AC := .reg e0l9
def e0_10 : AC := .seq e0_9 .ret
def e0_11 : AC := .cond (.t 48) e0_10 .skip
def e0_12 : AC := .seq e0_8 e0_11
def e0l13 : List AOp := [oD 50 (.mv (.t 5)),
oD 51 (.icall 9 [(.t 50)]),
oD 49 (.mv (.t 51)),
oD 52 (.ext 0 (.t 49)),
oD 53 (.ext 1 (.t 49)),
oD 9 (.mv (.t 52)),
oD 6 (.mv (.t 53))]
def e0_13 : AC := .reg e0l13
def e0l14 : List AOp := [oD 54 (.mv (.t 6)),
oD 55 (.isn .i true (.t 54))]
def e0_14 : AC := .reg e0l14
def e0l15 : List AOp := [oD 4 (.mv (.k (.bool false)))]
def e0_15 : AC := .reg e0l15
def e0_16 : AC := .seq e0_15 .ret
def e0_17 : AC := .cond (.t 55) e0_16 .skip
def e0_18 : AC := .seq e0_14 e0_17
def e0l19 : List AOp := [oD 10 (.mv (.k (.int .i64 0)))]
def e0_19 : AC := .reg e0l19
def e0l20 : List AOp := [oD 11 (.mv (.k (.int .i64 0)))]
def e0_20 : AC := .reg e0l20
def e0l21 : List AOp := [oD 56 (.mv (.t 11)),
oD 57 (.mv (.t 0)),
oD 58 (.len (.t 57)),
oD 59 (.bin .lss (.t 56) (.t 58)),
oD 60 (.mv (.t 59)),
oG 61 (.mv (.t 11)) 60 true,
oG 62 (.bin .lss (.t 61) (.k (.int .i64 20))) 60 true,
oD 63 (.pick (.t 60) (.t 62) (.k (.bool false)))]
def e0_21 : AC := .reg e0l21
def e0_22 : AC := .cond (.t 63) .skip (.exit 0)
def e0_23 : AC := .seq e0_21 e0_22
def e0l24 : List AOp := [oD 66 (.mv (.t 10)),
oD 67 (.bin .add (.t 66) (.k (.int .i64 1))),
oD 10 (.mv (.t 67))]
def e0_24 : AC := .reg e0l24
def e0l25 : List AOp := [oD 69 (.mv (.t 10)),
oD 70 (.mv (.t 10)),
oD 71 (.mv (.t 0)),
oD 72 (.mv (.t 11)),
oD 73 (.isl 1 (.t 71) (.t 72)),
oD 74 (.load none (.t 73)),
oD 75 (.conv .i64 (.t 74)),
oD 76 (.build [(.int .i64 0), (.int .i64 0), (.int .i64 0), (.int .i64 0)] [(0, 1, (.t 70)), (1, 1, (.t 75)), (2, 1, (.k (.int .i64 (-1))))]),
oD 77 (.blds false [(.int .i64 0), (.int .i64 0), (.int .i64 0), (.int .i64 0)] 1 [(0, (.t 76))]),
oD 78 (.call false 10 [(.t 69), (.t 77)]),
oD 68 (.mv (.t 78)),
oD 79 (.ext 0 (.t 68)),
oD 80 (.ext 1 (.t 68)),
oD 12 (.mv (.t 79)),
oD 13 (.mv (.t 80))]
def e0_25 : AC := .reg e0l25
def e0l26 : List AOp := [oD 82 (.mv (.t 9)),
oD 83 (.mv (.t 12)),
oD 84 (.build [(.int .i64 0), (.int .i64 0), (.int .i64 0), (.int .i64 0), (.str [])] [(0, 1, (.k (.int .i64 4))), (4, 1, (.t 83))]),
oD 85 (.icall 11 [(.t 82), (.t 84)]),
oD 81 (.mv (.t 85)),
oD 86 (.ext 0 (.t 81)),
oD 87 (.ext 1 (.t 81)),
oD 14 (.mv (.t 86)),
oD 15 (.mv (.t 87))]
def e0_26 : AC := .reg e0l26
def e0l27 : List AOp := [oD 88 (.mv (.t 15)),
oD 89 (.isn .i true (.t 88)),
oD 90 (.mv (.t 89)),
oG 91 (.mv (.t 13)) 90 false,
oG 92 (.bin .neq (.t 91) (.k (.int .i64 0))) 90 false,
oD 93 (.pick (.t 90) (.k (.bool true)) (.t 92))]
def e0_27 : AC := .reg e0l27
def e0l28 : List AOp := [oD 4 (.mv (.k (.bool false)))]
def e0_28 : AC := .reg e0l28
def e0_29 : AC := .seq e0_28 .ret
def e0_30 : AC := .cond (.t 93) e0_29 .skip
def e0_31 : AC := .seq e0_27 e0_30
def e0_32 : AC := .seq e0_26 e0_31
def e0_33 : AC := .seq e0_25 e0_32
def e0_34 : AC := .seq e0_24 e0_33
def e0_35 : AC := .block 1 e0_34
def e0l36 : List AOp := [oD 64 (.mv (.t 11)),
oD 65 (.bin .add (.t 64) (.k (.int .i64 1))),
oD 11 (.mv (.t 65))]
def e0_36 : AC := .reg e0l36
def e0_37 : AC := .seq e0_35 e0_36
def e0_38 : AC := .seq e0_23 e0_37
def e0_39 : AC := .loop [0, 3, 5, 9, 10, 11] 1000000000 e0_38
def e0_40 : AC := .block 0 e0_39
def e0_41 : AC := .seq e0_20 e0_40
def e0l42 : List AOp := [oD 94 (.faddr 0 (.t 3)),
oN (.store 1 (.t 94) (.k (.int .i64 1))),
oD 95 (.faddr 1 (.t 3)),
oN (.store 1 (.t 95) (.k (.int .i64 1)))]
def e0_42 : AC := .reg e0l42
def e0l43 : List AOp := [oD 96 (.faddr 3 (.t 3)),
oD 97 (.load none (.t 96)),
oD 98 (.bin .neq (.t 97) (.k (.str []))),
oD 99 (.mv (.t 98)),
oG 100 (.faddr 2 (.t 3)) 99 false,
oG 101 (.load none (.t 100)) 99 false,
oG 102 (.bin .gtr (.t 101) (.k (.int .i64 18))) 99 false,
oD 103 (.pick (.t 99) (.k (.bool true)) (.t 102))]
def e0_43 : AC := .reg e0l43
def e0l44 : List AOp := [oD 104 (.faddr 2 (.t 3)),
oN (.store 1 (.t 104) (.k (.int .i64 0)))]
def e0_44 : AC := .reg e0l44
def e0_45 : AC := .cond (.t 103) e0_44 .skip
def e0_46 : AC := .seq e0_43 e0_45
def e0l47 : List AOp := [oD 105 (.mv (.t 5)),
oD 106 (.load (some 4) (.t 3)),
oD 107 (.blds false [(.int .i64 0), (.int .i64 0), (.int .i64 0), (.str [])] 1 [(0, (.t 106))]),
oD 108 (.icall 12 [(.t 105), (.t 107)])]
def e0_47 : AC := .reg e0l47
def e0l48 : List AOp := [oD 110 (.mv (.t 10)),
oD 111 (.bin .add (.t 110) (.k (.int .i64 1))),
oD 112 (.call false 10 [(.t 111), (.k (.slc []))]),
oD 109 (.mv (.t 112)),
oD 113 (.ext 0 (.t 109)),
oD 114 (.ext 1 (.t 109)),
oD 16 (.mv (.t 113)),
oD 17 (.mv (.t 114))]
def e0_48 : AC := .reg e0l48
def e0l49 : List AOp := [oD 115 (.mv (.t 9)),
oD 116 (.mv (.t 16)),
oD 117 (.build [(.int .i64 0), (.int .i64 0), (.int .i64 0), (.int .i64 0), (.str [])] [(0, 1, (.k (.int .i64 4))), (4, 1, (.t 116))]),
oD 118 (.icall 11 [(.t 115), (.t 117)])]
def e0_49 : AC := .reg e0l49
def e0l50 : List AOp := [oD 119 (.mv (.t 5)),
oD 120 (.icall 13 [(.t 119)])]
def e0_50 : AC := .reg e0l50
def e0l51 : List AOp := [oD 122 (.mv (.t 5)),
oD 123 (.icall 9 [(.t 122)]),
oD 121 (.mv (.t 123)),
oD 124 (.ext 0 (.t 121)),
oD 125 (.ext 1 (.t 121)),
oD 18 (.mv (.t 124)),
oD 6 (.mv (.t 125))]
def e0_51 : AC := .reg e0l51
def e0l52 : List AOp := [oD 126 (.mv (.t 6)),
oD 127 (.isn .i true (.t 126))]
def e0_52 : AC := .reg e0l52
def e0l53 : List AOp := [oD 4 (.mv (.k (.bool false)))]
def e0_53 : AC := .reg e0l53
def e0_54 : AC := .seq e0_53 .ret
def e0_55 : AC := .cond (.t 127) e0_54 .skip
def e0_56 : AC := .seq e0_52 e0_55
def e0l57 : List AOp := [oD 129 (.mv (.t 18)),
oD 130 (.icall 14 [(.t 129)]),
oD 128 (.mv (.t 130)),
oD 131 (.ext 0 (.t 128)),
oD 132 (.ext 1 (.t 128)),
oD 19 (.mv (.t 131)),
oD 6 (.mv (.t 132))]
def e0_57 : AC := .reg e0l57
def e0l58 : List AOp := [oD 133 (.mv (.t 19)),
oD 134 (.icall 15 [(.t 133)]),
oD 20 (.mv (.t 134))]
def e0_58 : AC := .reg e0l58
def e0l59 : List AOp := [oD 135 (.mv (.t 6)),
oD 136 (.isn .i true (.t 135)),
oD 137 (.mv (.t 136)),
oG 138 (.mv (.t 20)) 137 false,
oG 139 (.len (.t 138)) 137 false,
oG 140 (.mv (.t 10)) 137 false,
oG 141 (.bin .neq (.t 139) (.t 140)) 137 false,
oD 142 (.pick (.t 137) (.k (.bool true)) (.t 141))]
def e0_59 : AC := .reg e0l59
def e0l60 : List AOp := [oD 4 (.mv (.k (.bool false)))]
def e0_60 : AC := .reg e0l60
def e0_61 : AC := .seq e0_60 .ret
def e0_62 : AC := .cond (.t 142) e0_61 .skip
def e0_63 : AC := .seq e0_59 e0_62
def e0l64 : List AOp := [oD 143 (.mv (.t 10)),
oD 144 (.bin .eql (.t 143) (.k (.int .i64 0)))]
def e0_64 : AC := .reg e0l64
def e0l65 : List AOp := [oD 4 (.mv (.k (.bool true)))]
def e0_65 : AC := .reg e0l65
def e0_66 : AC := .seq e0_65 .ret
def e0_67 : AC := .cond (.t 144) e0_66 .skip
def e0_68 : AC := .seq e0_64 e0_67
def e0l69 : List AOp := [oD 146 (.mv (.t 20)),
oD 147 (.isl 6 (.t 146) (.k (.int .i64 0))),
oD 148 (.faddr 1 (.t 147)),
oD 149 (.faddr 4 (.t 148)),
oD 150 (.load none (.t 149)),
oD 151 (.call false 16 [(.t 150)]),
oD 145 (.mv (.t 151)),
oD 152 (.ext 0 (.t 145)),
oD 153 (.ext 1 (.t 145)),
oD 154 (.ext 2 (.t 145)),
oD 21 (.mv (.t 152)),
oD 22 (.mv (.t 153)),
oD 23 (.mv (.t 154))]
def e0_69 : AC := .reg e0l69
def e0l70 : List AOp := [oD 155 (.mv (.t 23)),
oD 156 (.bin .eql (.t 155) (.k (.int .i64 0))),
oD 157 (.mv (.t 156)),
oG 158 (.mv (.t 21)) 157 true,
oG 159 (.mv (.t 10)) 157 true,
oG 160 (.bin .eql (.t 158) (.t 159)) 157 true,
oD 161 (.pick (.t 157) (.t 160) (.k (.bool false))),
oD 162 (.mv (.t 161)),
oG 163 (.mv (.t 22)) 162 true,
oG 164 (.len (.t 163)) 162 true,
oG 165 (.bin .eql (.t 164) (.k (.int .i64 1))) 162 true,
oD 166 (.pick (.t 162) (.t 165) (.k (.bool false))),
oD 167 (.mv (.t 166)),
oG 168 (.mv (.t 22)) 167 true,
oG 169 (.isl 4 (.t 168) (.k (.int .i64 0))) 167 true,
oG 170 (.faddr 0 (.t 169)) 167 true,
oG 171 (.load none (.t 170)) 167 true,
oG 172 (.mv (.t 10)) 167 true,
oG 173 (.bin .eql (.t 171) (.t 172)) 167 true,
oD 174 (.pick (.t 167) (.t 173) (.k (.bool false))),
oD 175 (.mv (.t 174)),
oG 176 (.mv (.t 22)) 175 true,
oG 177 (.isl 4 (.t 176) (.k (.int .i64 0))) 175 true,
oG 178 (.faddr 1 (.t 177)) 175 true,
oG 179 (.load none (.t 178)) 175 true,
oG 180 (.mv (.t 0)) 175 true,
oG 181 (.mv (.t 10)) 175 true,
oG 182 (.bin .sub (.t 181) (.k (.int .i64 1))) 175 true,
oG 183 (.isl 1 (.t 180) (.t 182)) 175 true,
oG 184 (.load none (.t 183)) 175 true,
oG 185 (.conv .i64 (.t 184)) 175 true,
oG 186 (.bin .eql (.t 179) (.t 185)) 175 true,
oD 187 (.pick (.t 175) (.t 186) (.k (.bool false))),
oD 4 (.mv (.t 187))]
def e0_70 : AC := .dreg 0 e0l70
def e0_71 : AC := .seq e0_70 .ret
def e0_72 : AC := .seq e0_69 e0_71
def e0_73 : AC := .seq e0_68 e0_72
def e0_74 : AC := .seq e0_63 e0_73
def e0_75 : AC := .seq e0_58 e0_74
def e0_76 : AC := .seq e0_57 e0_75
def e0_77 : AC := .seq e0_56 e0_76
def e0_78 : AC := .seq e0_51 e0_77
def e0_79 : AC := .seq e0_50 e0_78
def e0_80 : AC := .seq e0_49 e0_79
def e0_81 : AC := .seq e0_48 e0_80
def e0_82 : AC := .seq e0_47 e0_81
def e0_83 : AC := .seq e0_46 e0_82
def e0_84 : AC := .seq e0_42 e0_83
def e0_85 : AC := .seq e0_41 e0_84
def e0_86 : AC := .seq e0_19 e0_85
def e0_87 : AC := .seq e0_18 e0_86
def e0_88 : AC := .seq e0_13 e0_87
def e0_89 : AC := .seq e0_12 e0_88
def e0_90 : AC := .seq e0_7 e0_89
def e0_91 : AC := .seq e0_6 e0_90
def e0_92 : AC := .seq e0_1 e0_91
def e0_93 : AC := .seq e0_0 e0_92
def ac_top_TopNewest : AC := e0_93
theorem comp_top_TopNewest : compF Tryz.prog [1000005, 1000009, 1000011, 1000012, 1000013, 1000014, 1000015] (drawR Tryz.prog [1000005, 1000009, 1000011, 1000012, 1000013, 1000014, 1000015] Tryz.f3.ntmps) [([0, 3, 5, 9, 10, 11], 1000000000)] 2 Tryz.f3 = some (ac_top_TopNewest, [.t 4]) := by kernel_rfl
def U_top_TopNewest := J oA (J (J (J (J (J (J (J (J @ac_top_TopNewest.eq_1 (@mR _ _ e0_0.eq_1)) (@mR _ _ e0_1.eq_1)) (J (@mR _ _ e0_2.eq_1) (@mR _ _ e0_3.eq_1))) (J (J (@mU _ _ e0_4.eq_1) (@mU _ _ e0_5.eq_1)) (J (@mU _ _ e0_6.eq_1) (@mR _ _ e0_7.eq_1)))) (J (J (J (@mR _ _ e0_8.eq_1) (@mR _ _ e0_9.eq_1)) (J (@mU _ _ e0_10.eq_1) (@mU _ _ e0_11.eq_1))) (J (J (@mU _ _ e0_12.eq_1) (@mR _ _ e0_13.eq_1)) (J (@mR _ _ e0_14.eq_1) (@mR _ _ e0_15.eq_1))))) (J (J (J (J (@mU _ _ e0_16.eq_1) (@mU _ _ e0_17.eq_1)) (J (@mU _ _ e0_18.eq_1) (@mR _ _ e0_19.eq_1))) (J (J (@mR _ _ e0_20.eq_1) (@mR _ _ e0_21.eq_1)) (J (@mU _ _ e0_22.eq_1) (@mU _ _ e0_23.eq_1)))) (J (J (J (@mR _ _ e0_24.eq_1) (@mR _ _ e0_25.eq_1)) (J (@mR _ _ e0_26.eq_1) (@mR _ _ e0_27.eq_1))) (J (J (@mR _ _ e0_28.eq_1) (@mU _ _ e0_29.eq_1)) (J (@mU _ _ e0_30.eq_1) (@mU _ _ e0_31.eq_1)))))) (J (J (J (J (J (J (@mU _ _ e0_32.eq_1) (@mU _ _ e0_33.eq_1)) (@mU _ _ e0_34.eq_1)) (J (@mU _ _ e0_35.eq_1) (@mR _ _ e0_36.eq_1))) (J (J (@mU _ _ e0_37.eq_1) (@mU _ _ e0_38.eq_1)) (J (@mU _ _ e0_39.eq_1) (@mU _ _ e0_40.eq_1)))) (J (J (J (@mU _ _ e0_41.eq_1) (@mR _ _ e0_42.eq_1)) (J (@mR _ _ e0_43.eq_1) (@mR _ _ e0_44.eq_1))) (J (J (@mU _ _ e0_45.eq_1) (@mU _ _ e0_46.eq_1)) (J (@mR _ _ e0_47.eq_1) (@mR _ _ e0_48.eq_1))))) (J (J (J (J (@mR _ _ e0_49.eq_1) (@mR _ _ e0_50.eq_1)) (J (@mR _ _ e0_51.eq_1) (@mR _ _ e0_52.eq_1))) (J (J (@mR _ _ e0_53.eq_1) (@mU _ _ e0_54.eq_1)) (J (@mU _ _ e0_55.eq_1) (@mU _ _ e0_56.eq_1)))) (J (J (J (@mR _ _ e0_57.eq_1) (@mR _ _ e0_58.eq_1)) (J (@mR _ _ e0_59.eq_1) (@mR _ _ e0_60.eq_1))) (J (J (@mU _ _ e0_61.eq_1) (@mU _ _ e0_62.eq_1)) (J (@mU _ _ e0_63.eq_1) (@mR _ _ e0_64.eq_1))))))) (J (J (J (J (J (J (J (@mR _ _ e0_65.eq_1) (@mU _ _ e0_66.eq_1)) (@mU _ _ e0_67.eq_1)) (J (@mU _ _ e0_68.eq_1) (@mR _ _ e0_69.eq_1))) (J (J (@mD _ _ _ e0_70.eq_1) (@mU _ _ e0_71.eq_1)) (J (@mU _ _ e0_72.eq_1) (@mU _ _ e0_73.eq_1)))) (J (J (J (@mU _ _ e0_74.eq_1) (@mU _ _ e0_75.eq_1)) (J (@mU _ _ e0_76.eq_1) (@mU _ _ e0_77.eq_1))) (J (J (@mU _ _ e0_78.eq_1) (@mU _ _ e0_79.eq_1)) (J (@mU _ _ e0_80.eq_1) (@mU _ _ e0_81.eq_1))))) (J (J (J (J (@mU _ _ e0_82.eq_1) (@mU _ _ e0_83.eq_1)) (J (@mU _ _ e0_84.eq_1) (@mU _ _ e0_85.eq_1))) (J (J (@mU _ _ e0_86.eq_1) (@mU _ _ e0_87.eq_1)) (J (@mU _ _ e0_88.eq_1) (@mU _ _ e0_89.eq_1)))) (J (J (J (@mU _ _ e0_90.eq_1) (@mU _ _ e0_91.eq_1)) (J (@mU _ _ e0_92.eq_1) (@mU _ _ e0_93.eq_1))) (J (J @e0l0.eq_1 @e0l1.eq_1) (J @e0l2.eq_1 @e0l3.eq_1))))) (J (J (J (J (J (J @e0l7.eq_1 @e0l8.eq_1) @e0l9.eq_1) (J @e0l13.eq_1 @e0l14.eq_1)) (J (J @e0l15.eq_1 @e0l19.eq_1) (J @e0l20.eq_1 @e0l21.eq_1))) (J (J (J @e0l24.eq_1 @e0l25.eq_1) (J @e0l26.eq_1 @e0l27.eq_1)) (J (J @e0l28.eq_1 @e0l36.eq_1) (J @e0l42.eq_1 @e0l43.eq_1)))) (J (J (J (J @e0l44.eq_1 @e0l47.eq_1) (J @e0l48.eq_1 @e0l49.eq_1)) (J (J @e0l50.eq_1 @e0l51.eq_1) (J @e0l52.eq_1 @e0l53.eq_1))) (J (J (J @e0l57.eq_1 @e0l58.eq_1) (J @e0l59.eq_1 @e0l60.eq_1)) (J (J @e0l64.eq_1 @e0l65.eq_1) (J @e0l69.eq_1 @e0l70.eq_1)))))))

end Go.Proofs.YtdgpiobmncohjaaGreatDoor.Aw
