/-
  The functions of the seat, translated to abstract code. Written by a program (wip/Gen2.lean).; The functions of the seat, translated to abstract code. Written by a program (wip/Gen2.lean).; The functions of the seat, translated to abstract code. Written by a program (wip/Gen2.lean).
-/
import Derived.Test.YtdgpiobmncohjaaGreatKdc
import Derived.Test.YtdgpiobmncohjaaGreatProg
set_option maxRecDepth 100000
set_option linter.all false
namespace Go.Proofs.YtdgpiobmncohjaaGreat.Aw
open Go.RowKit
/- scoria/page.Write -/
def d0l0 : List AOp := [oD 1 (.box (.t 0)),
oD 2 (.mv (.k (.str []))),
oD 3 (.mv (.k (.int .i64 0)))]
def d0_0 : AC := .reg d0l0
def d0l1 : List AOp := [oD 6 (.load (some 5) (.t 1)),
oD 7 (.call false 40 [(.t 6)]),
oD 8 (.un .not (.t 7))]
def d0_1 : AC := .reg d0l1
def d0l2 : List AOp := [oD 2 (.mv (.k (.str []))),
oD 3 (.mv (.k (.int .i64 1)))]
def d0_2 : AC := .reg d0l2
def d0_3 : AC := .seq d0_2 .ret
def d0_4 : AC := .cond (.t 8) d0_3 .skip
def d0_5 : AC := .seq d0_1 d0_4
def d0l6 : List AOp := [oD 10 (.faddr 0 (.t 1)),
oD 11 (.load none (.t 10)),
oD 12 (.conv .u64 (.t 11)),
oD 13 (.faddr 1 (.t 1)),
oD 14 (.load none (.t 13)),
oD 15 (.conv .u64 (.t 14)),
oD 16 (.faddr 2 (.t 1)),
oD 17 (.load none (.t 16)),
oD 18 (.conv .u64 (.t 17)),
oD 19 (.faddr 3 (.t 1)),
oD 20 (.load none (.t 19)),
oD 21 (.conv .u64 (.t 20)),
oD 22 (.faddr 4 (.t 1)),
oD 23 (.load none (.t 22)),
oD 24 (.lens (.t 23)),
oD 25 (.conv .u64 (.t 24)),
oD 26 (.blds false [(.int .u64 0)] 5 [(0, (.t 12)), (1, (.t 15)), (2, (.t 18)), (3, (.t 21)), (4, (.t 25))]),
oD 27 (.call false 42 []),
oD 28 (.call false 41 [(.t 26), (.t 27)]),
oD 9 (.mv (.t 28)),
oD 29 (.ext 0 (.t 9)),
oD 30 (.ext 1 (.t 9)),
oD 4 (.mv (.t 29)),
oD 5 (.mv (.t 30))]
def d0_6 : AC := .dreg 0 d0l6
def d0l7 : List AOp := [oD 31 (.mv (.t 5)),
oD 32 (.bin .neq (.t 31) (.k (.int .i64 0)))]
def d0_7 : AC := .reg d0l7
def d0l8 : List AOp := [oD 33 (.mv (.t 5)),
oD 2 (.mv (.k (.str []))),
oD 3 (.mv (.t 33))]
def d0_8 : AC := .reg d0l8
def d0_9 : AC := .seq d0_8 .ret
def d0_10 : AC := .cond (.t 32) d0_9 .skip
def d0_11 : AC := .seq d0_7 d0_10
def d0l12 : List AOp := [oD 34 (.mv (.t 4)),
oD 35 (.bin .add (.k (.str [83, 99])) (.t 34)),
oD 36 (.faddr 4 (.t 1)),
oD 37 (.load none (.t 36)),
oD 38 (.bin .add (.t 35) (.t 37)),
oD 39 (.call false 43 [(.t 38)]),
oD 2 (.mv (.t 39)),
oD 3 (.mv (.k (.int .i64 0)))]
def d0_12 : AC := .reg d0l12
def d0_13 : AC := .seq d0_12 .ret
def d0_14 : AC := .seq d0_11 d0_13
def d0_15 : AC := .seq d0_6 d0_14
def d0_16 : AC := .seq d0_5 d0_15
def d0_17 : AC := .seq d0_0 d0_16
def ac_page_Write : AC := d0_17
theorem cm38 : compF Tryz.prog [] (drawR Tryz.prog [] Tryz.f20.ntmps) [] 1 Tryz.f20 = some (ac_page_Write, [.t 2, .t 3]) := by kernel_rfl
def U38 := J oA (J (J (J (J (J @ac_page_Write.eq_1 (@mR _ _ d0_0.eq_1)) (J (@mR _ _ d0_1.eq_1) (@mR _ _ d0_2.eq_1))) (J (J (@mU _ _ d0_3.eq_1) (@mU _ _ d0_4.eq_1)) (@mU _ _ d0_5.eq_1))) (J (J (J (@mD _ _ _ d0_6.eq_1) (@mR _ _ d0_7.eq_1)) (@mR _ _ d0_8.eq_1)) (J (J (@mU _ _ d0_9.eq_1) (@mU _ _ d0_10.eq_1)) (@mU _ _ d0_11.eq_1)))) (J (J (J (J (@mR _ _ d0_12.eq_1) (@mU _ _ d0_13.eq_1)) (J (@mU _ _ d0_14.eq_1) (@mU _ _ d0_15.eq_1))) (J (J (@mU _ _ d0_16.eq_1) (@mU _ _ d0_17.eq_1)) @d0l0.eq_1)) (J (J (J @d0l1.eq_1 @d0l2.eq_1) @d0l6.eq_1) (J (J @d0l7.eq_1 @d0l8.eq_1) @d0l12.eq_1))))

/- scoria/page.Read -/
def d1l0 : List AOp := [oD 2 (.alloc [(.int .i64 0), (.int .i64 0), (.int .i64 0), (.int .i64 0), (.str [])]),
oD 3 (.mv (.k (.int .i64 0)))]
def d1_0 : AC := .reg d1l0
def d1l1 : List AOp := [oD 10 (.mv (.t 0)),
oD 11 (.call false 46 [(.t 10)]),
oD 9 (.mv (.t 11)),
oD 12 (.ext 0 (.t 9)),
oD 13 (.ext 1 (.t 9)),
oD 4 (.mv (.t 12)),
oD 5 (.mv (.t 13))]
def d1_1 : AC := .reg d1l1
def d1l2 : List AOp := [oD 14 (.mv (.t 5)),
oD 15 (.bin .neq (.t 14) (.k (.int .i64 0)))]
def d1_2 : AC := .reg d1l2
def d1l3 : List AOp := [oD 16 (.build [(.int .i64 0), (.int .i64 0), (.int .i64 0), (.int .i64 0), (.str [])] []),
oD 17 (.mv (.t 5)),
oN (.store 5 (.t 2) (.t 16)),
oD 3 (.mv (.t 17))]
def d1_3 : AC := .reg d1l3
def d1_4 : AC := .seq d1_3 .ret
def d1_5 : AC := .cond (.t 15) d1_4 .skip
def d1_6 : AC := .seq d1_2 d1_5
def d1l7 : List AOp := [oD 18 (.mv (.t 4)),
oD 19 (.lens (.t 18)),
oD 20 (.bin .lss (.t 19) (.k (.int .i64 16))),
oD 21 (.mv (.t 20)),
oG 22 (.mv (.t 4)) 21 false,
oG 23 (.sstr (.t 22) none (some (.k (.int .i64 2)))) 21 false,
oG 24 (.bin .neq (.t 23) (.k (.str [83, 99]))) 21 false,
oD 25 (.pick (.t 21) (.k (.bool true)) (.t 24))]
def d1_7 : AC := .reg d1l7
def d1l8 : List AOp := [oD 26 (.build [(.int .i64 0), (.int .i64 0), (.int .i64 0), (.int .i64 0), (.str [])] []),
oN (.store 5 (.t 2) (.t 26)),
oD 3 (.mv (.k (.int .i64 3)))]
def d1_8 : AC := .reg d1l8
def d1_9 : AC := .seq d1_8 .ret
def d1_10 : AC := .cond (.t 25) d1_9 .skip
def d1_11 : AC := .seq d1_7 d1_10
def d1l12 : List AOp := [oD 28 (.mv (.t 4)),
oD 29 (.sstr (.t 28) (some (.k (.int .i64 2))) none),
oD 30 (.call false 42 []),
oD 31 (.call false 47 [(.t 29), (.t 30)]),
oD 27 (.mv (.t 31)),
oD 32 (.ext 0 (.t 27)),
oD 33 (.ext 1 (.t 27)),
oD 34 (.ext 2 (.t 27)),
oD 6 (.mv (.t 32)),
oD 7 (.mv (.t 33)),
oD 5 (.mv (.t 34))]
def d1_12 : AC := .dreg 0 d1l12
def d1l13 : List AOp := [oD 35 (.mv (.t 5)),
oD 36 (.bin .neq (.t 35) (.k (.int .i64 0))),
oD 37 (.mv (.t 36)),
oG 38 (.mv (.t 7)) 37 false,
oG 39 (.lens (.t 38)) 37 false,
oG 40 (.conv .u64 (.t 39)) 37 false,
oG 41 (.mv (.t 6)) 37 false,
oG 42 (.isl 1 (.t 41) (.k (.int .i64 4))) 37 false,
oG 43 (.load none (.t 42)) 37 false,
oG 44 (.bin .neq (.t 40) (.t 43)) 37 false,
oD 45 (.pick (.t 37) (.k (.bool true)) (.t 44))]
def d1_13 : AC := .reg d1l13
def d1l14 : List AOp := [oD 46 (.build [(.int .i64 0), (.int .i64 0), (.int .i64 0), (.int .i64 0), (.str [])] []),
oN (.store 5 (.t 2) (.t 46)),
oD 3 (.mv (.k (.int .i64 3)))]
def d1_14 : AC := .reg d1l14
def d1_15 : AC := .seq d1_14 .ret
def d1_16 : AC := .cond (.t 45) d1_15 .skip
def d1_17 : AC := .seq d1_13 d1_16
def d1l18 : List AOp := [oD 47 (.mv (.t 6)),
  ⟨(some 48), .isl 1 (.t 47) (.k (.int .i64 0)), none, none, [0], none⟩,
  ⟨(some 49), .load none (.t 48), none, none, [0], none⟩,
oD 50 (.conv .i64 (.t 49)),
oD 51 (.mv (.t 6)),
  ⟨(some 52), .isl 1 (.t 51) (.k (.int .i64 1)), none, none, [0], none⟩,
  ⟨(some 53), .load none (.t 52), none, none, [0], none⟩,
oD 54 (.conv .i64 (.t 53)),
oD 55 (.mv (.t 6)),
  ⟨(some 56), .isl 1 (.t 55) (.k (.int .i64 2)), none, none, [0], none⟩,
  ⟨(some 57), .load none (.t 56), none, none, [0], none⟩,
oD 58 (.conv .i64 (.t 57)),
oD 59 (.mv (.t 6)),
  ⟨(some 60), .isl 1 (.t 59) (.k (.int .i64 3)), none, none, [0], none⟩,
  ⟨(some 61), .load none (.t 60), none, none, [0], none⟩,
oD 62 (.conv .i64 (.t 61)),
oD 63 (.mv (.t 7)),
oD 64 (.build [(.int .i64 0), (.int .i64 0), (.int .i64 0), (.int .i64 0), (.str [])] [(0, 1, (.t 50)), (1, 1, (.t 54)), (2, 1, (.t 58)), (3, 1, (.t 62)), (4, 1, (.t 63))]),
  ⟨(some 8), .alloc [(.int .i64 0), (.int .i64 0), (.int .i64 0), (.int .i64 0), (.str [])], none, (some 0), [], none⟩,
oN (.store 5 (.t 8) (.t 64))]
def d1_18 : AC := .dreg 1 d1l18
def d1l19 : List AOp := [oD 65 (.load (some 5) (.t 8)),
oD 66 (.call false 40 [(.t 65)]),
oD 67 (.un .not (.t 66))]
def d1_19 : AC := .reg d1l19
def d1l20 : List AOp := [oD 68 (.build [(.int .i64 0), (.int .i64 0), (.int .i64 0), (.int .i64 0), (.str [])] []),
oN (.store 5 (.t 2) (.t 68)),
oD 3 (.mv (.k (.int .i64 3)))]
def d1_20 : AC := .reg d1l20
def d1_21 : AC := .seq d1_20 .ret
def d1_22 : AC := .cond (.t 67) d1_21 .skip
def d1_23 : AC := .seq d1_19 d1_22
def d1l24 : List AOp := [oD 69 (.load (some 5) (.t 8)),
oN (.store 5 (.t 2) (.t 69)),
oD 3 (.mv (.k (.int .i64 0)))]
def d1_24 : AC := .reg d1l24
def d1_25 : AC := .seq d1_24 .ret
def d1_26 : AC := .seq d1_23 d1_25
def d1_27 : AC := .seq d1_18 d1_26
def d1_28 : AC := .seq d1_17 d1_27
def d1_29 : AC := .seq d1_12 d1_28
def d1_30 : AC := .seq d1_11 d1_29
def d1_31 : AC := .seq d1_6 d1_30
def d1_32 : AC := .seq d1_1 d1_31
def d1_33 : AC := .seq d1_0 d1_32
def ac_page_Read : AC := d1_33
theorem cm37 : compF Tryz.prog [] (drawR Tryz.prog [] Tryz.f23.ntmps) [] 1 Tryz.f23 = some (ac_page_Read, [.c 2 (some 5), .t 3]) := by kernel_rfl
def U37 := J oA (J (J (J (J (J (J @ac_page_Read.eq_1 (@mR _ _ d1_0.eq_1)) (@mR _ _ d1_1.eq_1)) (J (J (@mR _ _ d1_2.eq_1) (@mR _ _ d1_3.eq_1)) (@mU _ _ d1_4.eq_1))) (J (J (J (@mU _ _ d1_5.eq_1) (@mU _ _ d1_6.eq_1)) (@mR _ _ d1_7.eq_1)) (J (J (@mR _ _ d1_8.eq_1) (@mU _ _ d1_9.eq_1)) (@mU _ _ d1_10.eq_1)))) (J (J (J (J (@mU _ _ d1_11.eq_1) (@mD _ _ _ d1_12.eq_1)) (@mR _ _ d1_13.eq_1)) (J (J (@mR _ _ d1_14.eq_1) (@mU _ _ d1_15.eq_1)) (@mU _ _ d1_16.eq_1))) (J (J (J (@mU _ _ d1_17.eq_1) (@mD _ _ _ d1_18.eq_1)) (@mR _ _ d1_19.eq_1)) (J (J (@mR _ _ d1_20.eq_1) (@mU _ _ d1_21.eq_1)) (@mU _ _ d1_22.eq_1))))) (J (J (J (J (J (@mU _ _ d1_23.eq_1) (@mR _ _ d1_24.eq_1)) (@mU _ _ d1_25.eq_1)) (J (J (@mU _ _ d1_26.eq_1) (@mU _ _ d1_27.eq_1)) (@mU _ _ d1_28.eq_1))) (J (J (J (@mU _ _ d1_29.eq_1) (@mU _ _ d1_30.eq_1)) (@mU _ _ d1_31.eq_1)) (J (J (@mU _ _ d1_32.eq_1) (@mU _ _ d1_33.eq_1)) @d1l0.eq_1))) (J (J (J (J @d1l1.eq_1 @d1l2.eq_1) @d1l3.eq_1) (J (J @d1l7.eq_1 @d1l8.eq_1) @d1l12.eq_1)) (J (J (J @d1l13.eq_1 @d1l14.eq_1) @d1l18.eq_1) (J (J @d1l19.eq_1 @d1l20.eq_1) @d1l24.eq_1)))))

/- scoria/page.may -/
def d2l0 : List AOp := [oD 1 (.box (.t 0)),
oD 2 (.mv (.k (.bool false)))]
def d2_0 : AC := .reg d2l0
def d2l1 : List AOp := [oD 3 (.faddr 0 (.t 1)),
oD 4 (.load none (.t 3)),
oD 5 (.bin .geq (.t 4) (.k (.int .i64 1))),
oD 6 (.mv (.t 5)),
oG 7 (.faddr 0 (.t 1)) 6 true,
oG 8 (.load none (.t 7)) 6 true,
oG 9 (.bin .leq (.t 8) (.k (.int .i64 4))) 6 true,
oD 10 (.pick (.t 6) (.t 9) (.k (.bool false))),
oD 11 (.mv (.t 10)),
oG 12 (.faddr 1 (.t 1)) 11 true,
oG 13 (.load none (.t 12)) 11 true,
oG 14 (.call false 55 [(.t 13), (.k (.int .i64 65535))]) 11 true,
oD 15 (.pick (.t 11) (.t 14) (.k (.bool false))),
oD 16 (.mv (.t 15)),
oG 17 (.faddr 2 (.t 1)) 16 true,
oG 18 (.load none (.t 17)) 16 true,
oG 19 (.call false 55 [(.t 18), (.k (.int .i64 4294967295))]) 16 true,
oD 20 (.pick (.t 16) (.t 19) (.k (.bool false))),
oD 21 (.mv (.t 20)),
oG 22 (.faddr 3 (.t 1)) 21 true,
oG 23 (.load none (.t 22)) 21 true,
oG 24 (.call false 55 [(.t 23), (.k (.int .i64 281474976710655))]) 21 true,
oD 25 (.pick (.t 21) (.t 24) (.k (.bool false))),
oD 26 (.mv (.t 25)),
oG 27 (.faddr 4 (.t 1)) 26 true,
oG 28 (.load none (.t 27)) 26 true,
oG 29 (.lens (.t 28)) 26 true,
oG 30 (.bin .leq (.t 29) (.k (.int .i64 100))) 26 true,
oD 31 (.pick (.t 26) (.t 30) (.k (.bool false))),
oD 2 (.mv (.t 31))]
def d2_1 : AC := .reg d2l1
def d2_2 : AC := .seq d2_1 .ret
def d2_3 : AC := .seq d2_0 d2_2
def ac_page_may : AC := d2_3
theorem cm40 : compF Tryz.prog [] (drawR Tryz.prog [] Tryz.f40.ntmps) [] 1 Tryz.f40 = some (ac_page_may, [.t 2]) := by kernel_rfl
def U40 := J oA (J (J (J @ac_page_may.eq_1 (@mR _ _ d2_0.eq_1)) (J (@mR _ _ d2_1.eq_1) (@mU _ _ d2_2.eq_1))) (J (J (@mU _ _ d2_3.eq_1) @d2l0.eq_1) @d2l1.eq_1))

/- scoria/field.Row -/
def d3l0 : List AOp := [oD 4 (.mv (.k (.str []))),
oD 5 (.mv (.k (.int .i64 0)))]
def d3_0 : AC := .reg d3l0
def d3l1 : List AOp := [oD 9 (.mv (.t 0)),
oD 10 (.len (.t 9)),
oD 11 (.mv (.t 1)),
oD 12 (.len (.t 11)),
oD 13 (.bin .neq (.t 10) (.t 12)),
oD 14 (.mv (.t 13)),
oG 15 (.mv (.t 1)) 14 false,
oG 16 (.call false 56 [(.t 15), (.k (.fn (.func 57) [] []))]) 14 false,
oD 17 (.pick (.t 14) (.k (.bool true)) (.t 16))]
def d3_1 : AC := .reg d3l1
def d3l2 : List AOp := [oD 4 (.mv (.k (.str []))),
oD 5 (.mv (.k (.int .i64 1)))]
def d3_2 : AC := .reg d3l2
def d3_3 : AC := .seq d3_2 .ret
def d3_4 : AC := .cond (.t 17) d3_3 .skip
def d3_5 : AC := .seq d3_1 d3_4
def d3l6 : List AOp := [oD 6 (.balloc 113 5)]
def d3_6 : AC := .reg d3l6
def d3l7 : List AOp := [oD 18 (.mv (.t 0)),
oD 19 (.len (.t 18)),
oD 20 (.mv (.k (.int .i64 0)))]
def d3_7 : AC := .reg d3l7
def d3l8 : List AOp := [oD 21 (.bin .lss (.t 20) (.t 19))]
def d3_8 : AC := .reg d3l8
def d3_9 : AC := .cond (.t 21) .skip (.exit 0)
def d3l10 : List AOp := [oD 22 (.mv (.t 20)),
oD 23 (.isl 1 (.t 18) (.t 20)),
oD 24 (.load none (.t 23)),
oD 7 (.mv (.t 22)),
oD 8 (.mv (.t 24))]
def d3_10 : AC := .reg d3l10
def d3l11 : List AOp := [oD 25 (.mv (.t 8)),
oD 26 (.mv (.t 1)),
oD 27 (.mv (.t 7)),
oD 28 (.isl 1 (.t 26) (.t 27)),
oD 29 (.load none (.t 28)),
oD 30 (.call false 58 [(.t 25), (.t 29)]),
oD 31 (.un .not (.t 30))]
def d3_11 : AC := .reg d3l11
def d3l12 : List AOp := [oD 4 (.mv (.k (.str []))),
oD 5 (.mv (.k (.int .i64 2)))]
def d3_12 : AC := .reg d3l12
def d3_13 : AC := .seq d3_12 .ret
def d3_14 : AC := .cond (.t 31) d3_13 .skip
def d3_15 : AC := .seq d3_11 d3_14
def d3l16 : List AOp := [oD 32 (.mv (.t 8)),
oD 33 (.mv (.t 1)),
oD 34 (.mv (.t 7)),
oD 35 (.isl 1 (.t 33) (.t 34)),
oD 36 (.load none (.t 35)),
oD 37 (.call false 60 [(.t 32), (.t 36)]),
oD 38 (.icall 59 [(.t 6), (.t 37)])]
def d3_16 : AC := .reg d3l16
def d3_17 : AC := .seq d3_15 d3_16
def d3_18 : AC := .seq d3_10 d3_17
def d3_19 : AC := .block 1 d3_18
def d3l20 : List AOp := [oD 39 (.bin .add (.t 20) (.k (.int .i64 1))),
oD 20 (.mv (.t 39))]
def d3_20 : AC := .reg d3l20
def d3_21 : AC := .seq d3_19 d3_20
def d3_22 : AC := .seq d3_9 d3_21
def d3_23 : AC := .seq d3_8 d3_22
def d3_24 : AC := .loop [1, 6, 18, 19, 20] 2 d3_23
def d3_25 : AC := .block 0 d3_24
def d3_26 : AC := .seq d3_7 d3_25
def d3l27 : List AOp := [oD 40 (.icall 61 [(.t 6)]),
oD 4 (.mv (.t 40)),
oD 5 (.mv (.k (.int .i64 0)))]
def d3_27 : AC := .reg d3l27
def d3_28 : AC := .seq d3_27 .ret
def d3_29 : AC := .seq d3_26 d3_28
def d3_30 : AC := .seq d3_6 d3_29
def d3_31 : AC := .seq d3_5 d3_30
def d3_32 : AC := .seq d3_0 d3_31
def ac_field_Row : AC := d3_32
theorem cm18 : compF Tryz.prog [6, 1000059, 1000061] (drawR Tryz.prog [6, 1000059, 1000061] Tryz.f41.ntmps) [([1, 6, 18, 19, 20], 2)] 2 Tryz.f41 = some (ac_field_Row, [.t 4, .t 5]) := by kernel_rfl
def U18 := J oA (J (J (J (J (J (J @ac_field_Row.eq_1 (@mR _ _ d3_0.eq_1)) (@mR _ _ d3_1.eq_1)) (J (J (@mR _ _ d3_2.eq_1) (@mU _ _ d3_3.eq_1)) (@mU _ _ d3_4.eq_1))) (J (J (J (@mU _ _ d3_5.eq_1) (@mR _ _ d3_6.eq_1)) (@mR _ _ d3_7.eq_1)) (J (J (@mR _ _ d3_8.eq_1) (@mU _ _ d3_9.eq_1)) (@mR _ _ d3_10.eq_1)))) (J (J (J (J (@mR _ _ d3_11.eq_1) (@mR _ _ d3_12.eq_1)) (@mU _ _ d3_13.eq_1)) (J (J (@mU _ _ d3_14.eq_1) (@mU _ _ d3_15.eq_1)) (@mR _ _ d3_16.eq_1))) (J (J (J (@mU _ _ d3_17.eq_1) (@mU _ _ d3_18.eq_1)) (@mU _ _ d3_19.eq_1)) (J (@mR _ _ d3_20.eq_1) (@mU _ _ d3_21.eq_1))))) (J (J (J (J (J (@mU _ _ d3_22.eq_1) (@mU _ _ d3_23.eq_1)) (@mU _ _ d3_24.eq_1)) (J (J (@mU _ _ d3_25.eq_1) (@mU _ _ d3_26.eq_1)) (@mR _ _ d3_27.eq_1))) (J (J (J (@mU _ _ d3_28.eq_1) (@mU _ _ d3_29.eq_1)) (@mU _ _ d3_30.eq_1)) (J (J (@mU _ _ d3_31.eq_1) (@mU _ _ d3_32.eq_1)) @d3l0.eq_1))) (J (J (J (J @d3l1.eq_1 @d3l2.eq_1) @d3l6.eq_1) (J (J @d3l7.eq_1 @d3l8.eq_1) @d3l10.eq_1)) (J (J (J @d3l11.eq_1 @d3l12.eq_1) @d3l16.eq_1) (J @d3l20.eq_1 @d3l27.eq_1)))))

/- scoria/page.widths -/
def d4l0 : List AOp := [oD 0 (.mv (.k (.slc [])))]
def d4_0 : AC := .reg d4l0
def d4l1 : List AOp := [oD 1 (.blds false [(.int .i64 0)] 5 [(0, (.k (.int .i64 1))), (1, (.k (.int .i64 2))), (2, (.k (.int .i64 4))), (3, (.k (.int .i64 6))), (4, (.k (.int .i64 1)))]),
oD 0 (.mv (.t 1))]
def d4_1 : AC := .reg d4l1
def d4_2 : AC := .seq d4_1 .ret
def d4_3 : AC := .seq d4_0 d4_2
def ac_page_widths : AC := d4_3
theorem cm41 : compF Tryz.prog [] (drawR Tryz.prog [] Tryz.f42.ntmps) [] 0 Tryz.f42 = some (ac_page_widths, [.t 0]) := by kernel_rfl
def U41 := J oA (J (J (J @ac_page_widths.eq_1 (@mR _ _ d4_0.eq_1)) (J (@mR _ _ d4_1.eq_1) (@mU _ _ d4_2.eq_1))) (J (J (@mU _ _ d4_3.eq_1) @d4l0.eq_1) @d4l1.eq_1))

/- scoria/check.Seal -/
def d5l0 : List AOp := [oD 2 (.mv (.k (.str [])))]
def d5_0 : AC := .reg d5l0
def d5l1 : List AOp := [oD 4 (.mv (.t 0)),
oD 5 (.call false 62 [(.t 4)]),
oD 3 (.mv (.t 5))]
def d5_1 : AC := .reg d5l1
def d5l2 : List AOp := [oD 6 (.mv (.t 0)),
oD 7 (.mv (.t 3)),
oD 8 (.bin .shr (.t 7) (.k (.int .u64 24))),
oD 9 (.conv .u8 (.t 8)),
oD 10 (.mv (.t 3)),
oD 11 (.bin .shr (.t 10) (.k (.int .u64 16))),
oD 12 (.conv .u8 (.t 11)),
oD 13 (.mv (.t 3)),
oD 14 (.bin .shr (.t 13) (.k (.int .u64 8))),
oD 15 (.conv .u8 (.t 14)),
oD 16 (.mv (.t 3)),
oD 17 (.conv .u8 (.t 16)),
oD 18 (.blds false [(.int .u8 0)] 4 [(0, (.t 9)), (1, (.t 12)), (2, (.t 15)), (3, (.t 17))]),
oD 19 (.b2s (.t 18)),
oD 20 (.bin .add (.t 6) (.t 19)),
oD 2 (.mv (.t 20))]
def d5_2 : AC := .reg d5l2
def d5_3 : AC := .seq d5_2 .ret
def d5_4 : AC := .seq d5_1 d5_3
def d5_5 : AC := .seq d5_0 d5_4
def ac_check_Seal : AC := d5_5
theorem cm2 : compF Tryz.prog [] (drawR Tryz.prog [] Tryz.f43.ntmps) [] 1 Tryz.f43 = some (ac_check_Seal, [.t 2]) := by kernel_rfl
def U2 := J oA (J (J (J (J @ac_check_Seal.eq_1 (@mR _ _ d5_0.eq_1)) (@mR _ _ d5_1.eq_1)) (J (@mR _ _ d5_2.eq_1) (@mU _ _ d5_3.eq_1))) (J (J (J (@mU _ _ d5_4.eq_1) (@mU _ _ d5_5.eq_1)) @d5l0.eq_1) (J @d5l1.eq_1 @d5l2.eq_1)))

/- scoria/check.Open -/
def d6l0 : List AOp := [oD 2 (.mv (.k (.str []))),
oD 3 (.mv (.k (.int .i64 0)))]
def d6_0 : AC := .reg d6l0
def d6l1 : List AOp := [oD 5 (.mv (.t 0)),
oD 6 (.lens (.t 5)),
oD 7 (.bin .sub (.t 6) (.k (.int .i64 4))),
oD 4 (.mv (.t 7))]
def d6_1 : AC := .reg d6l1
def d6l2 : List AOp := [oD 9 (.mv (.t 4)),
oD 10 (.bin .lss (.t 9) (.k (.int .i64 0))),
oD 8 (.mv (.t 10))]
def d6_2 : AC := .reg d6l2
def d6l3 : List AOp := [oD 2 (.mv (.k (.str []))),
oD 3 (.mv (.k (.int .i64 5)))]
def d6_3 : AC := .reg d6l3
def d6_4 : AC := .seq d6_3 .ret
def d6l5 : List AOp := [oD 12 (.mv (.t 0)),
oD 13 (.mv (.t 4)),
oD 14 (.sstr (.t 12) none (some (.t 13))),
oD 15 (.call false 43 [(.t 14)]),
oD 16 (.mv (.t 0)),
oD 17 (.bin .neq (.t 15) (.t 16)),
oD 11 (.mv (.t 17))]
def d6_5 : AC := .reg d6l5
def d6l6 : List AOp := [oD 2 (.mv (.k (.str []))),
oD 3 (.mv (.k (.int .i64 6)))]
def d6_6 : AC := .reg d6l6
def d6_7 : AC := .seq d6_6 .ret
def d6_8 : AC := .cond (.t 11) d6_7 .skip
def d6_9 : AC := .seq d6_5 d6_8
def d6_10 : AC := .cond (.t 8) d6_4 d6_9
def d6_11 : AC := .seq d6_2 d6_10
def d6_12 : AC := .block 0 d6_11
def d6l13 : List AOp := [oD 18 (.mv (.t 0)),
oD 19 (.mv (.t 4)),
oD 20 (.sstr (.t 18) none (some (.t 19))),
oD 2 (.mv (.t 20)),
oD 3 (.mv (.k (.int .i64 0)))]
def d6_13 : AC := .reg d6l13
def d6_14 : AC := .seq d6_13 .ret
def d6_15 : AC := .seq d6_12 d6_14
def d6_16 : AC := .seq d6_1 d6_15
def d6_17 : AC := .seq d6_0 d6_16
def ac_check_Open : AC := d6_17
theorem cm1 : compF Tryz.prog [] (drawR Tryz.prog [] Tryz.f46.ntmps) [] 1 Tryz.f46 = some (ac_check_Open, [.t 2, .t 3]) := by kernel_rfl
def U1 := J oA (J (J (J (J (J @ac_check_Open.eq_1 (@mR _ _ d6_0.eq_1)) (J (@mR _ _ d6_1.eq_1) (@mR _ _ d6_2.eq_1))) (J (J (@mR _ _ d6_3.eq_1) (@mU _ _ d6_4.eq_1)) (@mR _ _ d6_5.eq_1))) (J (J (J (@mR _ _ d6_6.eq_1) (@mU _ _ d6_7.eq_1)) (@mU _ _ d6_8.eq_1)) (J (J (@mU _ _ d6_9.eq_1) (@mU _ _ d6_10.eq_1)) (@mU _ _ d6_11.eq_1)))) (J (J (J (J (@mU _ _ d6_12.eq_1) (@mR _ _ d6_13.eq_1)) (J (@mU _ _ d6_14.eq_1) (@mU _ _ d6_15.eq_1))) (J (J (@mU _ _ d6_16.eq_1) (@mU _ _ d6_17.eq_1)) @d6l0.eq_1)) (J (J (J @d6l1.eq_1 @d6l2.eq_1) @d6l3.eq_1) (J (J @d6l5.eq_1 @d6l6.eq_1) @d6l13.eq_1))))

/- scoria/field.Take -/
def d7l0 : List AOp := [oD 4 (.nilown 1),
oD 5 (.mv (.k (.str []))),
oD 6 (.mv (.k (.int .i64 0)))]
def d7_0 : AC := .reg d7l0
def d7l1 : List AOp := [oD 12 (.mv (.t 1)),
oD 13 (.call false 56 [(.t 12), (.k (.fn (.func 57) [] []))])]
def d7_1 : AC := .reg d7l1
def d7l2 : List AOp := [oD 4 (.nilown 1),
oD 5 (.mv (.k (.str []))),
oD 6 (.mv (.k (.int .i64 1)))]
def d7_2 : AC := .reg d7l2
def d7_3 : AC := .seq d7_2 .ret
def d7_4 : AC := .cond (.t 13) d7_3 .skip
def d7_5 : AC := .seq d7_1 d7_4
def d7l6 : List AOp := [oD 7 (.mv (.k (.int .i64 0)))]
def d7_6 : AC := .reg d7l6
def d7l7 : List AOp := [oD 14 (.mv (.t 1)),
oD 15 (.len (.t 14)),
oD 16 (.mv (.k (.int .i64 0)))]
def d7_7 : AC := .reg d7l7
def d7l8 : List AOp := [oD 17 (.bin .lss (.t 16) (.t 15))]
def d7_8 : AC := .reg d7l8
def d7_9 : AC := .cond (.t 17) .skip (.exit 0)
def d7l10 : List AOp := [oD 18 (.isl 1 (.t 14) (.t 16)),
oD 19 (.load none (.t 18)),
oD 9 (.mv (.t 19))]
def d7_10 : AC := .reg d7l10
def d7l11 : List AOp := [oD 21 (.mv (.t 0)),
oD 22 (.mv (.t 7)),
oD 23 (.mv (.t 9)),
oD 24 (.call false 69 [(.t 21), (.t 22), (.t 23)]),
oD 20 (.mv (.t 24)),
oD 25 (.ext 0 (.t 20)),
oD 26 (.ext 1 (.t 20)),
oD 10 (.mv (.t 25)),
oD 11 (.mv (.t 26))]
def d7_11 : AC := .reg d7l11
def d7l12 : List AOp := [oD 27 (.mv (.t 11)),
oD 28 (.bin .neq (.t 27) (.k (.int .i64 0)))]
def d7_12 : AC := .reg d7l12
def d7l13 : List AOp := [oD 29 (.mv (.t 11)),
oD 4 (.nilown 1),
oD 5 (.mv (.k (.str []))),
oD 6 (.mv (.t 29))]
def d7_13 : AC := .reg d7l13
def d7_14 : AC := .seq d7_13 .ret
def d7_15 : AC := .cond (.t 28) d7_14 .skip
def d7_16 : AC := .seq d7_12 d7_15
def d7l17 : List AOp := [oD 30 (.mv (.t 4)),
oD 31 (.mv (.t 10)),
oD 32 (.blds false [(.int .u64 0)] 1 [(0, (.t 31))]),
oD 33 (.app 1 8 [(.int .u64 0)] (.t 30) (.t 32)),
oD 4 (.mv (.t 33))]
def d7_17 : AC := .reg d7l17
def d7l18 : List AOp := [oD 34 (.mv (.t 7)),
oD 35 (.mv (.t 9)),
oD 36 (.bin .add (.t 34) (.t 35)),
oD 7 (.mv (.t 36))]
def d7_18 : AC := .reg d7l18
def d7_19 : AC := .seq d7_17 d7_18
def d7_20 : AC := .seq d7_16 d7_19
def d7_21 : AC := .seq d7_11 d7_20
def d7_22 : AC := .seq d7_10 d7_21
def d7_23 : AC := .block 1 d7_22
def d7l24 : List AOp := [oD 37 (.bin .add (.t 16) (.k (.int .i64 1))),
oD 16 (.mv (.t 37))]
def d7_24 : AC := .reg d7l24
def d7_25 : AC := .seq d7_23 d7_24
def d7_26 : AC := .seq d7_9 d7_25
def d7_27 : AC := .seq d7_8 d7_26
def d7_28 : AC := .loop [0, 4, 7, 14, 15, 16] 1 d7_27
def d7_29 : AC := .block 0 d7_28
def d7_30 : AC := .seq d7_7 d7_29
def d7l31 : List AOp := [oD 38 (.mv (.t 4)),
oD 39 (.mv (.t 0)),
oD 40 (.mv (.t 7)),
oD 41 (.sstr (.t 39) (some (.t 40)) none),
oD 4 (.mv (.t 38)),
oD 5 (.mv (.t 41)),
oD 6 (.mv (.k (.int .i64 0)))]
def d7_31 : AC := .dreg 0 d7l31
def d7_32 : AC := .seq d7_31 .ret
def d7_33 : AC := .seq d7_30 d7_32
def d7_34 : AC := .seq d7_6 d7_33
def d7_35 : AC := .seq d7_5 d7_34
def d7_36 : AC := .seq d7_0 d7_35
def ac_field_Take : AC := d7_36
theorem cm19 : compF Tryz.prog [4] (drawR Tryz.prog [4] Tryz.f47.ntmps) [([0, 4, 7, 14, 15, 16], 1)] 2 Tryz.f47 = some (ac_field_Take, [.t 4, .t 5, .t 6]) := by kernel_rfl
def U19 := J oA (J (J (J (J (J (J @ac_field_Take.eq_1 (@mR _ _ d7_0.eq_1)) (J (@mR _ _ d7_1.eq_1) (@mR _ _ d7_2.eq_1))) (J (J (@mU _ _ d7_3.eq_1) (@mU _ _ d7_4.eq_1)) (@mU _ _ d7_5.eq_1))) (J (J (J (@mR _ _ d7_6.eq_1) (@mR _ _ d7_7.eq_1)) (@mR _ _ d7_8.eq_1)) (J (J (@mU _ _ d7_9.eq_1) (@mR _ _ d7_10.eq_1)) (@mR _ _ d7_11.eq_1)))) (J (J (J (J (@mR _ _ d7_12.eq_1) (@mR _ _ d7_13.eq_1)) (J (@mU _ _ d7_14.eq_1) (@mU _ _ d7_15.eq_1))) (J (J (@mU _ _ d7_16.eq_1) (@mR _ _ d7_17.eq_1)) (@mR _ _ d7_18.eq_1))) (J (J (J (@mU _ _ d7_19.eq_1) (@mU _ _ d7_20.eq_1)) (@mU _ _ d7_21.eq_1)) (J (J (@mU _ _ d7_22.eq_1) (@mU _ _ d7_23.eq_1)) (@mR _ _ d7_24.eq_1))))) (J (J (J (J (J (@mU _ _ d7_25.eq_1) (@mU _ _ d7_26.eq_1)) (J (@mU _ _ d7_27.eq_1) (@mU _ _ d7_28.eq_1))) (J (J (@mU _ _ d7_29.eq_1) (@mU _ _ d7_30.eq_1)) (@mD _ _ _ d7_31.eq_1))) (J (J (J (@mU _ _ d7_32.eq_1) (@mU _ _ d7_33.eq_1)) (@mU _ _ d7_34.eq_1)) (J (J (@mU _ _ d7_35.eq_1) (@mU _ _ d7_36.eq_1)) @d7l0.eq_1))) (J (J (J (J @d7l1.eq_1 @d7l2.eq_1) (J @d7l6.eq_1 @d7l7.eq_1)) (J (J @d7l8.eq_1 @d7l10.eq_1) @d7l11.eq_1)) (J (J (J @d7l12.eq_1 @d7l13.eq_1) @d7l17.eq_1) (J (J @d7l18.eq_1 @d7l24.eq_1) @d7l31.eq_1)))))

/- scoria/page.in -/
def d8l0 : List AOp := [oD 4 (.mv (.k (.bool false)))]
def d8_0 : AC := .reg d8l0
def d8l1 : List AOp := [oD 5 (.mv (.t 0)),
oD 6 (.bin .geq (.t 5) (.k (.int .i64 0))),
oD 7 (.mv (.t 6)),
oG 8 (.mv (.t 0)) 7 true,
oG 9 (.mv (.t 1)) 7 true,
oG 10 (.bin .leq (.t 8) (.t 9)) 7 true,
oD 11 (.pick (.t 7) (.t 10) (.k (.bool false))),
oD 4 (.mv (.t 11))]
def d8_1 : AC := .reg d8l1
def d8_2 : AC := .seq d8_1 .ret
def d8_3 : AC := .seq d8_0 d8_2
def ac_page_in : AC := d8_3
theorem cm39 : compF Tryz.prog [] (drawR Tryz.prog [] Tryz.f55.ntmps) [] 2 Tryz.f55 = some (ac_page_in, [.t 4]) := by kernel_rfl
def U39 := J oA (J (J (J @ac_page_in.eq_1 (@mR _ _ d8_0.eq_1)) (J (@mR _ _ d8_1.eq_1) (@mU _ _ d8_2.eq_1))) (J (J (@mU _ _ d8_3.eq_1) @d8l0.eq_1) @d8l1.eq_1))

/- slices.ContainsFunc[[]int,int] -/
def d9l0 : List AOp := [oD 4 (.mv (.k (.bool false)))]
def d9_0 : AC := .reg d9l0
def d9l1 : List AOp := [oD 5 (.mv (.t 0)),
oD 6 (.mv (.t 1)),
oD 7 (.call false 74 [(.t 5), (.t 6)]),
oD 8 (.bin .geq (.t 7) (.k (.int .i64 0))),
oD 4 (.mv (.t 8))]
def d9_1 : AC := .reg d9l1
def d9_2 : AC := .seq d9_1 .ret
def d9_3 : AC := .seq d9_0 d9_2
def ac_slices_ContainsFunc_int : AC := d9_3
theorem cm47 : compF Tryz.prog [] (drawR Tryz.prog [] Tryz.f56.ntmps) [] 2 Tryz.f56 = some (ac_slices_ContainsFunc_int, [.t 4]) := by kernel_rfl
def U47 := J oA (J (J (J @ac_slices_ContainsFunc_int.eq_1 (@mR _ _ d9_0.eq_1)) (J (@mR _ _ d9_1.eq_1) (@mU _ _ d9_2.eq_1))) (J (J (@mU _ _ d9_3.eq_1) @d9l0.eq_1) @d9l1.eq_1))

/- scoria/field.wrong -/
def d10l0 : List AOp := [oD 2 (.mv (.k (.bool false)))]
def d10_0 : AC := .reg d10l0
def d10l1 : List AOp := [oD 3 (.mv (.t 0)),
oD 4 (.call false 75 [(.t 3)]),
oD 5 (.un .not (.t 4)),
oD 2 (.mv (.t 5))]
def d10_1 : AC := .reg d10l1
def d10_2 : AC := .seq d10_1 .ret
def d10_3 : AC := .seq d10_0 d10_2
def ac_field_wrong : AC := d10_3
theorem cm23 : compF Tryz.prog [] (drawR Tryz.prog [] Tryz.f57.ntmps) [] 1 Tryz.f57 = some (ac_field_wrong, [.t 2]) := by kernel_rfl
def U23 := J oA (J (J (J @ac_field_wrong.eq_1 (@mR _ _ d10_0.eq_1)) (J (@mR _ _ d10_1.eq_1) (@mU _ _ d10_2.eq_1))) (J (J (@mU _ _ d10_3.eq_1) @d10l0.eq_1) @d10l1.eq_1))

/- scoria/field.fits -/
def d11l0 : List AOp := [oD 4 (.mv (.k (.bool false)))]
def d11_0 : AC := .reg d11l0
def d11l1 : List AOp := [oD 5 (.mv (.t 1)),
oD 6 (.bin .eql (.t 5) (.k (.int .i64 8))),
oD 7 (.mv (.t 6)),
oG 8 (.mv (.t 0)) 7 false,
oG 9 (.mv (.t 1)) 7 false,
oG 10 (.bin .mul (.k (.int .i64 8)) (.t 9)) 7 false,
oG 11 (.bin .shr (.t 8) (.t 10)) 7 false,
oG 12 (.bin .eql (.t 11) (.k (.int .u64 0))) 7 false,
oD 13 (.pick (.t 7) (.k (.bool true)) (.t 12)),
oD 4 (.mv (.t 13))]
def d11_1 : AC := .reg d11l1
def d11_2 : AC := .seq d11_1 .ret
def d11_3 : AC := .seq d11_0 d11_2
def ac_field_fits : AC := d11_3
theorem cm20 : compF Tryz.prog [] (drawR Tryz.prog [] Tryz.f58.ntmps) [] 2 Tryz.f58 = some (ac_field_fits, [.t 4]) := by kernel_rfl
def U20 := J oA (J (J (J @ac_field_fits.eq_1 (@mR _ _ d11_0.eq_1)) (J (@mR _ _ d11_1.eq_1) (@mU _ _ d11_2.eq_1))) (J (J (@mU _ _ d11_3.eq_1) @d11l0.eq_1) @d11l1.eq_1))

/- (*strings.Builder).WriteString -/
def d12l0 : List AOp := [oD 4 (.mv (.k (.int .i64 0))),
oD 5 (.mv (.k .nili))]
def d12_0 : AC := .reg d12l0
def d12l1 : List AOp := [oD 6 (.mv (.t 0)),
oD 7 (.icall 76 [(.t 6)])]
def d12_1 : AC := .reg d12l1
def d12l2 : List AOp := [oD 8 (.mv (.t 0)),
oD 9 (.mv (.t 0)),
oD 10 (.nilck (.t 9)),
oD 11 (.faddr 1 (.t 10)),
oD 12 (.load none (.t 11)),
oD 13 (.mv (.t 1)),
oD 14 (.apps 5 (.t 12) (.t 13)),
oD 15 (.nilck (.t 8)),
oD 16 (.faddr 1 (.t 15)),
oN (.store 1 (.t 16) (.t 14))]
def d12_2 : AC := .reg d12l2
def d12l3 : List AOp := [oD 17 (.mv (.t 1)),
oD 18 (.lens (.t 17)),
oD 4 (.mv (.t 18)),
oD 5 (.mv (.k .nili))]
def d12_3 : AC := .reg d12l3
def d12_4 : AC := .seq d12_3 .ret
def d12_5 : AC := .seq d12_2 d12_4
def d12_6 : AC := .seq d12_1 d12_5
def d12_7 : AC := .seq d12_0 d12_6
def ac_strings_Builder_WriteString : AC := d12_7
theorem cm60 : compF Tryz.prog [1000076] (drawR Tryz.prog [1000076] Tryz.f59.ntmps) [] 2 Tryz.f59 = some (ac_strings_Builder_WriteString, [.t 4, .t 5]) := by kernel_rfl
def U60 := J oA (J (J (J (J @ac_strings_Builder_WriteString.eq_1 (@mR _ _ d12_0.eq_1)) (J (@mR _ _ d12_1.eq_1) (@mR _ _ d12_2.eq_1))) (J (J (@mR _ _ d12_3.eq_1) (@mU _ _ d12_4.eq_1)) (@mU _ _ d12_5.eq_1))) (J (J (J (@mU _ _ d12_6.eq_1) (@mU _ _ d12_7.eq_1)) @d12l0.eq_1) (J (J @d12l1.eq_1 @d12l2.eq_1) @d12l3.eq_1)))

/- scoria/field.laid -/
def d13l0 : List AOp := [oD 4 (.mv (.k (.str [])))]
def d13_0 : AC := .reg d13l0
def d13l1 : List AOp := [oD 5 (.alloc (List.replicate 8 (.int .u8 0)))]
def d13_1 : AC := .reg d13l1
def d13l2 : List AOp := [oD 6 (.mv (.t 1))]
def d13_2 : AC := .reg d13l2
def d13l3 : List AOp := [oD 8 (.bin .eql (.t 6) (.k (.int .i64 8))),
oD 7 (.mv (.t 8))]
def d13_3 : AC := .reg d13l3
def d13_4 : AC := .cond (.t 7) (.exit 1) .skip
def d13_5 : AC := .seq d13_3 d13_4
def d13l6 : List AOp := [oD 10 (.bin .eql (.t 6) (.k (.int .i64 7))),
oD 9 (.mv (.t 10))]
def d13_6 : AC := .reg d13l6
def d13_7 : AC := .cond (.t 9) (.exit 2) .skip
def d13_8 : AC := .seq d13_6 d13_7
def d13l9 : List AOp := [oD 12 (.bin .eql (.t 6) (.k (.int .i64 6))),
oD 11 (.mv (.t 12))]
def d13_9 : AC := .reg d13l9
def d13_10 : AC := .cond (.t 11) (.exit 3) .skip
def d13_11 : AC := .seq d13_9 d13_10
def d13l12 : List AOp := [oD 14 (.bin .eql (.t 6) (.k (.int .i64 5))),
oD 13 (.mv (.t 14))]
def d13_12 : AC := .reg d13l12
def d13_13 : AC := .cond (.t 13) (.exit 4) .skip
def d13_14 : AC := .seq d13_12 d13_13
def d13l15 : List AOp := [oD 16 (.bin .eql (.t 6) (.k (.int .i64 4))),
oD 15 (.mv (.t 16))]
def d13_15 : AC := .reg d13l15
def d13_16 : AC := .cond (.t 15) (.exit 5) .skip
def d13_17 : AC := .seq d13_15 d13_16
def d13l18 : List AOp := [oD 18 (.bin .eql (.t 6) (.k (.int .i64 3))),
oD 17 (.mv (.t 18))]
def d13_18 : AC := .reg d13l18
def d13_19 : AC := .cond (.t 17) (.exit 6) .skip
def d13_20 : AC := .seq d13_18 d13_19
def d13l21 : List AOp := [oD 20 (.bin .eql (.t 6) (.k (.int .i64 2))),
oD 19 (.mv (.t 20))]
def d13_21 : AC := .reg d13l21
def d13_22 : AC := .cond (.t 19) (.exit 7) .skip
def d13_23 : AC := .seq d13_21 d13_22
def d13l24 : List AOp := [oD 22 (.bin .eql (.t 6) (.k (.int .i64 1))),
oD 21 (.mv (.t 22))]
def d13_24 : AC := .reg d13l24
def d13_25 : AC := .cond (.t 21) (.exit 8) .skip
def d13_26 : AC := .seq d13_24 d13_25
def d13_27 : AC := .seq d13_23 d13_26
def d13_28 : AC := .seq d13_20 d13_27
def d13_29 : AC := .seq d13_17 d13_28
def d13_30 : AC := .seq d13_14 d13_29
def d13_31 : AC := .seq d13_11 d13_30
def d13_32 : AC := .seq d13_8 d13_31
def d13_33 : AC := .seq d13_5 d13_32
def d13_34 : AC := .seq d13_33 (.exit 0)
def d13_35 : AC := .block 1 d13_34
def d13l36 : List AOp := [oD 23 (.mv (.t 0)),
oD 24 (.bin .shr (.t 23) (.k (.int .u64 56))),
oD 25 (.conv .u8 (.t 24)),
oD 26 (.iarr 1 8 (.t 5) (.k (.int .i64 7))),
oN (.store 1 (.t 26) (.t 25))]
def d13_36 : AC := .reg d13l36
def d13_37 : AC := .seq d13_35 d13_36
def d13_38 : AC := .block 2 d13_37
def d13l39 : List AOp := [oD 27 (.mv (.t 0)),
oD 28 (.bin .shr (.t 27) (.k (.int .u64 48))),
oD 29 (.conv .u8 (.t 28)),
oD 30 (.iarr 1 8 (.t 5) (.k (.int .i64 6))),
oN (.store 1 (.t 30) (.t 29))]
def d13_39 : AC := .reg d13l39
def d13_40 : AC := .seq d13_38 d13_39
def d13_41 : AC := .block 3 d13_40
def d13l42 : List AOp := [oD 31 (.mv (.t 0)),
oD 32 (.bin .shr (.t 31) (.k (.int .u64 40))),
oD 33 (.conv .u8 (.t 32)),
oD 34 (.iarr 1 8 (.t 5) (.k (.int .i64 5))),
oN (.store 1 (.t 34) (.t 33))]
def d13_42 : AC := .reg d13l42
def d13_43 : AC := .seq d13_41 d13_42
def d13_44 : AC := .block 4 d13_43
def d13l45 : List AOp := [oD 35 (.mv (.t 0)),
oD 36 (.bin .shr (.t 35) (.k (.int .u64 32))),
oD 37 (.conv .u8 (.t 36)),
oD 38 (.iarr 1 8 (.t 5) (.k (.int .i64 4))),
oN (.store 1 (.t 38) (.t 37))]
def d13_45 : AC := .reg d13l45
def d13_46 : AC := .seq d13_44 d13_45
def d13_47 : AC := .block 5 d13_46
def d13l48 : List AOp := [oD 39 (.mv (.t 0)),
oD 40 (.bin .shr (.t 39) (.k (.int .u64 24))),
oD 41 (.conv .u8 (.t 40)),
oD 42 (.iarr 1 8 (.t 5) (.k (.int .i64 3))),
oN (.store 1 (.t 42) (.t 41))]
def d13_48 : AC := .reg d13l48
def d13_49 : AC := .seq d13_47 d13_48
def d13_50 : AC := .block 6 d13_49
def d13l51 : List AOp := [oD 43 (.mv (.t 0)),
oD 44 (.bin .shr (.t 43) (.k (.int .u64 16))),
oD 45 (.conv .u8 (.t 44)),
oD 46 (.iarr 1 8 (.t 5) (.k (.int .i64 2))),
oN (.store 1 (.t 46) (.t 45))]
def d13_51 : AC := .reg d13l51
def d13_52 : AC := .seq d13_50 d13_51
def d13_53 : AC := .block 7 d13_52
def d13l54 : List AOp := [oD 47 (.mv (.t 0)),
oD 48 (.bin .shr (.t 47) (.k (.int .u64 8))),
oD 49 (.conv .u8 (.t 48)),
oD 50 (.iarr 1 8 (.t 5) (.k (.int .i64 1))),
oN (.store 1 (.t 50) (.t 49))]
def d13_54 : AC := .reg d13l54
def d13_55 : AC := .seq d13_53 d13_54
def d13_56 : AC := .block 8 d13_55
def d13l57 : List AOp := [oD 51 (.mv (.t 0)),
oD 52 (.conv .u8 (.t 51)),
oD 53 (.iarr 1 8 (.t 5) (.k (.int .i64 0))),
oN (.store 1 (.t 53) (.t 52))]
def d13_57 : AC := .reg d13l57
def d13_58 : AC := .seq d13_57 (.exit 0)
def d13_59 : AC := .seq d13_56 d13_58
def d13_60 : AC := .block 0 d13_59
def d13_61 : AC := .seq d13_2 d13_60
def d13l62 : List AOp := [oD 54 (.mv (.t 1)),
oD 55 (.sarr 1 8 (.t 5) none (some (.t 54))),
oD 56 (.b2s (.t 55)),
oD 4 (.mv (.t 56))]
def d13_62 : AC := .reg d13l62
def d13_63 : AC := .seq d13_62 .ret
def d13_64 : AC := .seq d13_61 d13_63
def d13_65 : AC := .seq d13_1 d13_64
def d13_66 : AC := .seq d13_0 d13_65
def ac_field_laid : AC := d13_66
theorem cm21 : compF Tryz.prog [] (drawR Tryz.prog [] Tryz.f60.ntmps) [] 2 Tryz.f60 = some (ac_field_laid, [.t 4]) := by kernel_rfl
def U21 := J oA (J (J (J (J (J (J (J @ac_field_laid.eq_1 (@mR _ _ d13_0.eq_1)) (@mR _ _ d13_1.eq_1)) (J (J (@mR _ _ d13_2.eq_1) (@mR _ _ d13_3.eq_1)) (@mU _ _ d13_4.eq_1))) (J (J (J (@mU _ _ d13_5.eq_1) (@mR _ _ d13_6.eq_1)) (@mU _ _ d13_7.eq_1)) (J (@mU _ _ d13_8.eq_1) (@mR _ _ d13_9.eq_1)))) (J (J (J (J (@mU _ _ d13_10.eq_1) (@mU _ _ d13_11.eq_1)) (@mR _ _ d13_12.eq_1)) (J (J (@mU _ _ d13_13.eq_1) (@mU _ _ d13_14.eq_1)) (@mR _ _ d13_15.eq_1))) (J (J (J (@mU _ _ d13_16.eq_1) (@mU _ _ d13_17.eq_1)) (@mR _ _ d13_18.eq_1)) (J (@mU _ _ d13_19.eq_1) (@mU _ _ d13_20.eq_1))))) (J (J (J (J (J (@mR _ _ d13_21.eq_1) (@mU _ _ d13_22.eq_1)) (@mU _ _ d13_23.eq_1)) (J (J (@mR _ _ d13_24.eq_1) (@mU _ _ d13_25.eq_1)) (@mU _ _ d13_26.eq_1))) (J (J (J (@mU _ _ d13_27.eq_1) (@mU _ _ d13_28.eq_1)) (@mU _ _ d13_29.eq_1)) (J (@mU _ _ d13_30.eq_1) (@mU _ _ d13_31.eq_1)))) (J (J (J (J (@mU _ _ d13_32.eq_1) (@mU _ _ d13_33.eq_1)) (@mU _ _ d13_34.eq_1)) (J (J (@mU _ _ d13_35.eq_1) (@mR _ _ d13_36.eq_1)) (@mU _ _ d13_37.eq_1))) (J (J (J (@mU _ _ d13_38.eq_1) (@mR _ _ d13_39.eq_1)) (@mU _ _ d13_40.eq_1)) (J (@mU _ _ d13_41.eq_1) (@mR _ _ d13_42.eq_1)))))) (J (J (J (J (J (J (@mU _ _ d13_43.eq_1) (@mU _ _ d13_44.eq_1)) (@mR _ _ d13_45.eq_1)) (J (J (@mU _ _ d13_46.eq_1) (@mU _ _ d13_47.eq_1)) (@mR _ _ d13_48.eq_1))) (J (J (J (@mU _ _ d13_49.eq_1) (@mU _ _ d13_50.eq_1)) (@mR _ _ d13_51.eq_1)) (J (@mU _ _ d13_52.eq_1) (@mU _ _ d13_53.eq_1)))) (J (J (J (J (@mR _ _ d13_54.eq_1) (@mU _ _ d13_55.eq_1)) (@mU _ _ d13_56.eq_1)) (J (J (@mR _ _ d13_57.eq_1) (@mU _ _ d13_58.eq_1)) (@mU _ _ d13_59.eq_1))) (J (J (J (@mU _ _ d13_60.eq_1) (@mU _ _ d13_61.eq_1)) (@mR _ _ d13_62.eq_1)) (J (@mU _ _ d13_63.eq_1) (@mU _ _ d13_64.eq_1))))) (J (J (J (J (J (@mU _ _ d13_65.eq_1) (@mU _ _ d13_66.eq_1)) @d13l0.eq_1) (J (J @d13l1.eq_1 @d13l2.eq_1) @d13l3.eq_1)) (J (J (J @d13l6.eq_1 @d13l9.eq_1) @d13l12.eq_1) (J @d13l15.eq_1 @d13l18.eq_1))) (J (J (J (J @d13l21.eq_1 @d13l24.eq_1) @d13l36.eq_1) (J (J @d13l39.eq_1 @d13l42.eq_1) @d13l45.eq_1)) (J (J (J @d13l48.eq_1 @d13l51.eq_1) @d13l54.eq_1) (J @d13l57.eq_1 @d13l62.eq_1))))))

/- (*strings.Builder).String -/
def d14l0 : List AOp := [oD 2 (.mv (.k (.str [])))]
def d14_0 : AC := .reg d14l0
def d14l1 : List AOp := [oD 3 (.mv (.t 0)),
oD 4 (.nilck (.t 3)),
oD 5 (.faddr 1 (.t 4)),
oD 6 (.load none (.t 5)),
oD 7 (.usd (.t 6)),
oD 8 (.mv (.t 0)),
oD 9 (.nilck (.t 8)),
oD 10 (.faddr 1 (.t 9)),
oD 11 (.load none (.t 10)),
oD 12 (.len (.t 11)),
oD 13 (.ust 5 (.t 7) (.t 12)),
oD 2 (.mv (.t 13))]
def d14_1 : AC := .dreg 0 d14l1
def d14_2 : AC := .seq d14_1 .ret
def d14_3 : AC := .seq d14_0 d14_2
def ac_strings_Builder_String : AC := d14_3
theorem cm59 : compF Tryz.prog [] (drawR Tryz.prog [] Tryz.f61.ntmps) [] 1 Tryz.f61 = some (ac_strings_Builder_String, [.t 2]) := by kernel_rfl
def U59 := J oA (J (J (J @ac_strings_Builder_String.eq_1 (@mR _ _ d14_0.eq_1)) (J (@mD _ _ _ d14_1.eq_1) (@mU _ _ d14_2.eq_1))) (J (J (@mU _ _ d14_3.eq_1) @d14l0.eq_1) @d14l1.eq_1))

/- scoria/check.Sum -/
def d15l0 : List AOp := [oD 2 (.mv (.k (.int .u32 0)))]
def d15_0 : AC := .reg d15l0
def d15l1 : List AOp := [oD 3 (.mv (.t 0)),
oD 4 (.call false 77 [(.k (.int .u32 0)), (.t 3)]),
oD 2 (.mv (.t 4))]
def d15_1 : AC := .reg d15l1
def d15_2 : AC := .seq d15_1 .ret
def d15_3 : AC := .seq d15_0 d15_2
def ac_check_Sum : AC := d15_3
theorem cm3 : compF Tryz.prog [] (drawR Tryz.prog [] Tryz.f62.ntmps) [] 1 Tryz.f62 = some (ac_check_Sum, [.t 2]) := by kernel_rfl
def U3 := J oA (J (J (J @ac_check_Sum.eq_1 (@mR _ _ d15_0.eq_1)) (J (@mR _ _ d15_1.eq_1) (@mU _ _ d15_2.eq_1))) (J (J (@mU _ _ d15_3.eq_1) @d15l0.eq_1) @d15l1.eq_1))

/- scoria/field.Get -/
def d16l0 : List AOp := [oD 6 (.mv (.k (.int .u64 0))),
oD 7 (.mv (.k (.int .i64 0)))]
def d16_0 : AC := .reg d16l0
def d16l1 : List AOp := [oD 11 (.mv (.t 2)),
oD 12 (.call false 75 [(.t 11)]),
oD 13 (.un .not (.t 12)),
oD 14 (.mv (.t 13)),
oG 15 (.mv (.t 1)) 14 false,
oG 16 (.bin .lss (.t 15) (.k (.int .i64 0))) 14 false,
oD 17 (.pick (.t 14) (.k (.bool true)) (.t 16)),
oD 10 (.mv (.t 17))]
def d16_1 : AC := .reg d16l1
def d16l2 : List AOp := [oD 6 (.mv (.k (.int .u64 0))),
oD 7 (.mv (.k (.int .i64 1)))]
def d16_2 : AC := .reg d16l2
def d16_3 : AC := .seq d16_2 .ret
def d16l4 : List AOp := [oD 19 (.mv (.t 1)),
oD 20 (.mv (.t 0)),
oD 21 (.lens (.t 20)),
oD 22 (.bin .gtr (.t 19) (.t 21)),
oD 23 (.mv (.t 22)),
oG 24 (.mv (.t 0)) 23 false,
oG 25 (.lens (.t 24)) 23 false,
oG 26 (.mv (.t 1)) 23 false,
oG 27 (.bin .sub (.t 25) (.t 26)) 23 false,
oG 28 (.mv (.t 2)) 23 false,
oG 29 (.bin .lss (.t 27) (.t 28)) 23 false,
oD 30 (.pick (.t 23) (.k (.bool true)) (.t 29)),
oD 18 (.mv (.t 30))]
def d16_4 : AC := .reg d16l4
def d16l5 : List AOp := [oD 6 (.mv (.k (.int .u64 0))),
oD 7 (.mv (.k (.int .i64 5)))]
def d16_5 : AC := .reg d16l5
def d16_6 : AC := .seq d16_5 .ret
def d16_7 : AC := .cond (.t 18) d16_6 .skip
def d16_8 : AC := .seq d16_4 d16_7
def d16_9 : AC := .cond (.t 10) d16_3 d16_8
def d16_10 : AC := .seq d16_1 d16_9
def d16_11 : AC := .block 0 d16_10
def d16l12 : List AOp := [oD 8 (.mv (.k (.int .u64 0)))]
def d16_12 : AC := .reg d16l12
def d16l13 : List AOp := [oD 31 (.mv (.t 2)),
oD 32 (.bin .sub (.t 31) (.k (.int .i64 1))),
oD 9 (.mv (.t 32))]
def d16_13 : AC := .reg d16l13
def d16l14 : List AOp := [oD 33 (.mv (.t 9)),
oD 34 (.bin .geq (.t 33) (.k (.int .i64 0)))]
def d16_14 : AC := .reg d16l14
def d16_15 : AC := .cond (.t 34) .skip (.exit 1)
def d16_16 : AC := .seq d16_14 d16_15
def d16l17 : List AOp := [oD 37 (.mv (.t 8)),
oD 38 (.bin .shl (.t 37) (.k (.int .u64 8))),
oD 39 (.mv (.t 0)),
oD 40 (.mv (.t 1)),
oD 41 (.mv (.t 9)),
oD 42 (.bin .add (.t 40) (.t 41)),
oD 43 (.idxs (.t 39) (.t 42)),
oD 44 (.conv .u64 (.t 43)),
oD 45 (.bin .or (.t 38) (.t 44)),
oD 8 (.mv (.t 45))]
def d16_17 : AC := .reg d16l17
def d16_18 : AC := .block 2 d16_17
def d16l19 : List AOp := [oD 35 (.mv (.t 9)),
oD 36 (.bin .sub (.t 35) (.k (.int .i64 1))),
oD 9 (.mv (.t 36))]
def d16_19 : AC := .reg d16l19
def d16_20 : AC := .seq d16_18 d16_19
def d16_21 : AC := .seq d16_16 d16_20
def d16_22 : AC := .loop [0, 1, 8, 9] 0 d16_21
def d16_23 : AC := .block 1 d16_22
def d16_24 : AC := .seq d16_13 d16_23
def d16l25 : List AOp := [oD 46 (.mv (.t 8)),
oD 6 (.mv (.t 46)),
oD 7 (.mv (.k (.int .i64 0)))]
def d16_25 : AC := .reg d16l25
def d16_26 : AC := .seq d16_25 .ret
def d16_27 : AC := .seq d16_24 d16_26
def d16_28 : AC := .seq d16_12 d16_27
def d16_29 : AC := .seq d16_11 d16_28
def d16_30 : AC := .seq d16_0 d16_29
def ac_field_Get : AC := d16_30
theorem cm17 : compF Tryz.prog [] (drawR Tryz.prog [] Tryz.f69.ntmps) [([0, 1, 8, 9], 0)] 3 Tryz.f69 = some (ac_field_Get, [.t 6, .t 7]) := by kernel_rfl
def U17 := J oA (J (J (J (J (J (J @ac_field_Get.eq_1 (@mR _ _ d16_0.eq_1)) (@mR _ _ d16_1.eq_1)) (J (J (@mR _ _ d16_2.eq_1) (@mU _ _ d16_3.eq_1)) (@mR _ _ d16_4.eq_1))) (J (J (J (@mR _ _ d16_5.eq_1) (@mU _ _ d16_6.eq_1)) (@mU _ _ d16_7.eq_1)) (J (@mU _ _ d16_8.eq_1) (@mU _ _ d16_9.eq_1)))) (J (J (J (J (@mU _ _ d16_10.eq_1) (@mU _ _ d16_11.eq_1)) (@mR _ _ d16_12.eq_1)) (J (J (@mR _ _ d16_13.eq_1) (@mR _ _ d16_14.eq_1)) (@mU _ _ d16_15.eq_1))) (J (J (J (@mU _ _ d16_16.eq_1) (@mR _ _ d16_17.eq_1)) (@mU _ _ d16_18.eq_1)) (J (@mR _ _ d16_19.eq_1) (@mU _ _ d16_20.eq_1))))) (J (J (J (J (J (@mU _ _ d16_21.eq_1) (@mU _ _ d16_22.eq_1)) (@mU _ _ d16_23.eq_1)) (J (J (@mU _ _ d16_24.eq_1) (@mR _ _ d16_25.eq_1)) (@mU _ _ d16_26.eq_1))) (J (J (J (@mU _ _ d16_27.eq_1) (@mU _ _ d16_28.eq_1)) (@mU _ _ d16_29.eq_1)) (J (@mU _ _ d16_30.eq_1) @d16l0.eq_1))) (J (J (J (J @d16l1.eq_1 @d16l2.eq_1) @d16l4.eq_1) (J @d16l5.eq_1 @d16l12.eq_1)) (J (J (J @d16l13.eq_1 @d16l14.eq_1) @d16l17.eq_1) (J @d16l19.eq_1 @d16l25.eq_1)))))

/- slices.IndexFunc[[]int,int] -/
def d17l0 : List AOp := [oD 4 (.mv (.k (.int .i64 0)))]
def d17_0 : AC := .reg d17l0
def d17l1 : List AOp := [oD 6 (.mv (.t 0)),
oD 7 (.len (.t 6)),
oD 8 (.mv (.k (.int .i64 0)))]
def d17_1 : AC := .reg d17l1
def d17l2 : List AOp := [oD 9 (.bin .lss (.t 8) (.t 7))]
def d17_2 : AC := .reg d17l2
def d17_3 : AC := .cond (.t 9) .skip (.exit 0)
def d17l4 : List AOp := [oD 10 (.mv (.t 8)),
oD 5 (.mv (.t 10))]
def d17_4 : AC := .reg d17l4
def d17l5 : List AOp := [oD 11 (.mv (.t 1)),
oD 12 (.mv (.t 0)),
oD 13 (.mv (.t 5)),
oD 14 (.isl 1 (.t 12) (.t 13)),
oD 15 (.load none (.t 14)),
oD 16 (.callv (.t 11) [(.t 15)])]
def d17_5 : AC := .reg d17l5
def d17l6 : List AOp := [oD 17 (.mv (.t 5)),
oD 4 (.mv (.t 17))]
def d17_6 : AC := .reg d17l6
def d17_7 : AC := .seq d17_6 .ret
def d17_8 : AC := .cond (.t 16) d17_7 .skip
def d17_9 : AC := .seq d17_5 d17_8
def d17_10 : AC := .seq d17_4 d17_9
def d17_11 : AC := .block 1 d17_10
def d17l12 : List AOp := [oD 18 (.bin .add (.t 8) (.k (.int .i64 1))),
oD 8 (.mv (.t 18))]
def d17_12 : AC := .reg d17l12
def d17_13 : AC := .seq d17_11 d17_12
def d17_14 : AC := .seq d17_3 d17_13
def d17_15 : AC := .seq d17_2 d17_14
def d17_16 : AC := .loop [0, 1, 7, 8] 0 d17_15
def d17_17 : AC := .block 0 d17_16
def d17_18 : AC := .seq d17_1 d17_17
def d17l19 : List AOp := [oD 4 (.mv (.k (.int .i64 (-1))))]
def d17_19 : AC := .reg d17l19
def d17_20 : AC := .seq d17_19 .ret
def d17_21 : AC := .seq d17_18 d17_20
def d17_22 : AC := .seq d17_0 d17_21
def ac_slices_IndexFunc_int : AC := d17_22
theorem cm55 : compF Tryz.prog [] (drawR Tryz.prog [] Tryz.f74.ntmps) [([0, 1, 7, 8], 0)] 2 Tryz.f74 = some (ac_slices_IndexFunc_int, [.t 4]) := by kernel_rfl
def U55 := J oA (J (J (J (J (J @ac_slices_IndexFunc_int.eq_1 (@mR _ _ d17_0.eq_1)) (J (@mR _ _ d17_1.eq_1) (@mR _ _ d17_2.eq_1))) (J (J (@mU _ _ d17_3.eq_1) (@mR _ _ d17_4.eq_1)) (J (@mR _ _ d17_5.eq_1) (@mR _ _ d17_6.eq_1)))) (J (J (J (@mU _ _ d17_7.eq_1) (@mU _ _ d17_8.eq_1)) (J (@mU _ _ d17_9.eq_1) (@mU _ _ d17_10.eq_1))) (J (J (@mU _ _ d17_11.eq_1) (@mR _ _ d17_12.eq_1)) (J (@mU _ _ d17_13.eq_1) (@mU _ _ d17_14.eq_1))))) (J (J (J (J (@mU _ _ d17_15.eq_1) (@mU _ _ d17_16.eq_1)) (J (@mU _ _ d17_17.eq_1) (@mU _ _ d17_18.eq_1))) (J (J (@mR _ _ d17_19.eq_1) (@mU _ _ d17_20.eq_1)) (J (@mU _ _ d17_21.eq_1) (@mU _ _ d17_22.eq_1)))) (J (J (J @d17l0.eq_1 @d17l1.eq_1) (J @d17l2.eq_1 @d17l4.eq_1)) (J (J @d17l5.eq_1 @d17l6.eq_1) (J @d17l12.eq_1 @d17l19.eq_1)))))

/- scoria/field.width -/
def d18l0 : List AOp := [oD 2 (.mv (.k (.bool false)))]
def d18_0 : AC := .reg d18l0
def d18l1 : List AOp := [oD 3 (.mv (.t 0)),
oD 4 (.bin .geq (.t 3) (.k (.int .i64 1))),
oD 5 (.mv (.t 4)),
oG 6 (.mv (.t 0)) 5 true,
oG 7 (.bin .leq (.t 6) (.k (.int .i64 8))) 5 true,
oD 8 (.pick (.t 5) (.t 7) (.k (.bool false))),
oD 2 (.mv (.t 8))]
def d18_1 : AC := .reg d18l1
def d18_2 : AC := .seq d18_1 .ret
def d18_3 : AC := .seq d18_0 d18_2
def ac_field_width : AC := d18_3
theorem cm22 : compF Tryz.prog [] (drawR Tryz.prog [] Tryz.f75.ntmps) [] 1 Tryz.f75 = some (ac_field_width, [.t 2]) := by kernel_rfl
def U22 := J oA (J (J (J @ac_field_width.eq_1 (@mR _ _ d18_0.eq_1)) (J (@mR _ _ d18_1.eq_1) (@mU _ _ d18_2.eq_1))) (J (J (@mU _ _ d18_3.eq_1) @d18l0.eq_1) @d18l1.eq_1))

/- scoria/check.More -/
def d19l0 : List AOp := [oD 4 (.mv (.k (.int .u32 0)))]
def d19_0 : AC := .reg d19l0
def d19l1 : List AOp := [oD 7 (.mv (.t 0)),
oD 8 (.un .xor (.t 7)),
oD 5 (.mv (.t 8))]
def d19_1 : AC := .reg d19l1
def d19l2 : List AOp := [oD 9 (.mv (.t 1)),
oD 10 (.lens (.t 9)),
oD 11 (.mv (.k (.int .i64 0)))]
def d19_2 : AC := .reg d19l2
def d19l3 : List AOp := [oD 12 (.bin .lss (.t 11) (.t 10))]
def d19_3 : AC := .reg d19l3
def d19_4 : AC := .cond (.t 12) .skip (.exit 0)
def d19l5 : List AOp := [oD 13 (.mv (.t 11)),
oD 6 (.mv (.t 13))]
def d19_5 : AC := .reg d19l5
def d19l6 : List AOp := [oD 14 (.mv (.t 5)),
oD 15 (.mv (.t 1)),
oD 16 (.mv (.t 6)),
oD 17 (.idxs (.t 15) (.t 16)),
oD 18 (.call false 90 [(.t 14), (.t 17)]),
oD 5 (.mv (.t 18))]
def d19_6 : AC := .reg d19l6
def d19_7 : AC := .seq d19_5 d19_6
def d19_8 : AC := .block 1 d19_7
def d19l9 : List AOp := [oD 19 (.bin .add (.t 11) (.k (.int .i64 1))),
oD 11 (.mv (.t 19))]
def d19_9 : AC := .reg d19l9
def d19_10 : AC := .seq d19_8 d19_9
def d19_11 : AC := .seq d19_4 d19_10
def d19_12 : AC := .seq d19_3 d19_11
def d19_13 : AC := .loop [1, 5, 10, 11] 0 d19_12
def d19_14 : AC := .block 0 d19_13
def d19_15 : AC := .seq d19_2 d19_14
def d19l16 : List AOp := [oD 20 (.mv (.t 5)),
oD 21 (.un .xor (.t 20)),
oD 4 (.mv (.t 21))]
def d19_16 : AC := .reg d19l16
def d19_17 : AC := .seq d19_16 .ret
def d19_18 : AC := .seq d19_15 d19_17
def d19_19 : AC := .seq d19_1 d19_18
def d19_20 : AC := .seq d19_0 d19_19
def ac_check_More : AC := d19_20
theorem cm0 : compF Tryz.prog [] (drawR Tryz.prog [] Tryz.f77.ntmps) [([1, 5, 10, 11], 0)] 2 Tryz.f77 = some (ac_check_More, [.t 4]) := by kernel_rfl
def U0 := J oA (J (J (J (J (J @ac_check_More.eq_1 (@mR _ _ d19_0.eq_1)) (J (@mR _ _ d19_1.eq_1) (@mR _ _ d19_2.eq_1))) (J (J (@mR _ _ d19_3.eq_1) (@mU _ _ d19_4.eq_1)) (J (@mR _ _ d19_5.eq_1) (@mR _ _ d19_6.eq_1)))) (J (J (J (@mU _ _ d19_7.eq_1) (@mU _ _ d19_8.eq_1)) (J (@mR _ _ d19_9.eq_1) (@mU _ _ d19_10.eq_1))) (J (J (@mU _ _ d19_11.eq_1) (@mU _ _ d19_12.eq_1)) (@mU _ _ d19_13.eq_1)))) (J (J (J (J (@mU _ _ d19_14.eq_1) (@mU _ _ d19_15.eq_1)) (J (@mR _ _ d19_16.eq_1) (@mU _ _ d19_17.eq_1))) (J (J (@mU _ _ d19_18.eq_1) (@mU _ _ d19_19.eq_1)) (J (@mU _ _ d19_20.eq_1) @d19l0.eq_1))) (J (J (J @d19l1.eq_1 @d19l2.eq_1) (J @d19l3.eq_1 @d19l5.eq_1)) (J (J @d19l6.eq_1 @d19l9.eq_1) @d19l16.eq_1))))

/- scoria/check.next -/
def d20l0 : List AOp := [oD 4 (.mv (.k (.int .u32 0)))]
def d20_0 : AC := .reg d20l0
def d20l1 : List AOp := [oD 5 (.mv (.t 0)),
oD 6 (.mv (.t 1)),
oD 7 (.conv .u32 (.t 6)),
oD 8 (.bin .shl (.t 7) (.k (.int .u64 24))),
oD 9 (.bin .xor (.t 5) (.t 8)),
oD 0 (.mv (.t 9))]
def d20_1 : AC := .reg d20l1
def d20l2 : List AOp := [oD 10 (.mv (.k (.int .i64 0)))]
def d20_2 : AC := .reg d20l2
def d20l3 : List AOp := [oD 11 (.bin .lss (.t 10) (.k (.int .i64 8)))]
def d20_3 : AC := .reg d20l3
def d20_4 : AC := .cond (.t 11) .skip (.exit 0)
def d20l5 : List AOp := [oD 12 (.mv (.t 0)),
oD 13 (.bin .shr (.t 12) (.k (.int .u64 31))),
oD 14 (.bin .eql (.t 13) (.k (.int .u32 1)))]
def d20_5 : AC := .reg d20l5
def d20l6 : List AOp := [oD 15 (.mv (.t 0)),
oD 16 (.bin .shl (.t 15) (.k (.int .u64 1))),
oD 17 (.bin .xor (.t 16) (.k (.int .u32 79764919))),
oD 0 (.mv (.t 17))]
def d20_6 : AC := .reg d20l6
def d20l7 : List AOp := [oD 18 (.mv (.t 0)),
oD 19 (.bin .shl (.t 18) (.k (.int .u64 1))),
oD 0 (.mv (.t 19))]
def d20_7 : AC := .reg d20l7
def d20_8 : AC := .cond (.t 14) d20_6 d20_7
def d20_9 : AC := .seq d20_5 d20_8
def d20_10 : AC := .block 1 d20_9
def d20l11 : List AOp := [oD 20 (.bin .add (.t 10) (.k (.int .i64 1))),
oD 10 (.mv (.t 20))]
def d20_11 : AC := .reg d20l11
def d20_12 : AC := .seq d20_10 d20_11
def d20_13 : AC := .seq d20_4 d20_12
def d20_14 : AC := .seq d20_3 d20_13
def d20_15 : AC := .loop [0, 10] 0 d20_14
def d20_16 : AC := .block 0 d20_15
def d20_17 : AC := .seq d20_2 d20_16
def d20l18 : List AOp := [oD 21 (.mv (.t 0)),
oD 4 (.mv (.t 21))]
def d20_18 : AC := .reg d20l18
def d20_19 : AC := .seq d20_18 .ret
def d20_20 : AC := .seq d20_17 d20_19
def d20_21 : AC := .seq d20_1 d20_20
def d20_22 : AC := .seq d20_0 d20_21
def ac_check_next : AC := d20_22
theorem cm4 : compF Tryz.prog [] (drawR Tryz.prog [] Tryz.f90.ntmps) [([0, 10], 0)] 2 Tryz.f90 = some (ac_check_next, [.t 4]) := by kernel_rfl
def U4 := J oA (J (J (J (J (J (J @ac_check_next.eq_1 (@mR _ _ d20_0.eq_1)) (@mR _ _ d20_1.eq_1)) (J (@mR _ _ d20_2.eq_1) (@mR _ _ d20_3.eq_1))) (J (J (@mU _ _ d20_4.eq_1) (@mR _ _ d20_5.eq_1)) (J (@mR _ _ d20_6.eq_1) (@mR _ _ d20_7.eq_1)))) (J (J (J (@mU _ _ d20_8.eq_1) (@mU _ _ d20_9.eq_1)) (J (@mU _ _ d20_10.eq_1) (@mR _ _ d20_11.eq_1))) (J (J (@mU _ _ d20_12.eq_1) (@mU _ _ d20_13.eq_1)) (J (@mU _ _ d20_14.eq_1) (@mU _ _ d20_15.eq_1))))) (J (J (J (J (@mU _ _ d20_16.eq_1) (@mU _ _ d20_17.eq_1)) (J (@mR _ _ d20_18.eq_1) (@mU _ _ d20_19.eq_1))) (J (J (@mU _ _ d20_20.eq_1) (@mU _ _ d20_21.eq_1)) (J (@mU _ _ d20_22.eq_1) @d20l0.eq_1))) (J (J (J @d20l1.eq_1 @d20l2.eq_1) (J @d20l3.eq_1 @d20l5.eq_1)) (J (J @d20l6.eq_1 @d20l7.eq_1) (J @d20l11.eq_1 @d20l18.eq_1)))))

end Go.Proofs.YtdgpiobmncohjaaGreat.Aw
namespace Go.Proofs.YtdgpiobmncohjaaGreat.Aw
open Go.RowKit
/- scoria/scoriatop.fine -/
def e0l0 : List AOp := [oD 0 (.mv (.k (.bool false)))]
def e0_0 : AC := .reg e0l0
def e0l1 : List AOp := [oD 9 (.call false 19 []),
oD 10 (.icall 18 [(.t 9)]),
oD 8 (.mv (.t 10)),
oD 11 (.ext 0 (.t 8)),
oD 12 (.ext 1 (.t 8)),
oD 1 (.mv (.t 11)),
oD 2 (.mv (.t 12))]
def e0_1 : AC := .reg e0l1
def e0l2 : List AOp := [oD 14 (.build [(.int .i64 0), (.int .i64 0), (.int .i64 0), (.int .i64 0), (.str [])] [(0, 1, (.k (.int .i64 1))), (2, 1, (.k (.int .i64 3))), (4, 1, (.k (.str [97])))]),
oD 15 (.call false 20 [(.t 14)]),
oD 13 (.mv (.t 15)),
oD 16 (.ext 0 (.t 13)),
oD 17 (.ext 1 (.t 13)),
oD 3 (.mv (.t 16)),
oD 4 (.mv (.t 17))]
def e0_2 : AC := .reg e0l2
def e0l3 : List AOp := [oD 18 (.mv (.t 2)),
oD 19 (.isn .i true (.t 18)),
oD 20 (.mv (.t 19)),
oG 21 (.mv (.t 1)) 20 false,
oG 22 (.isn .p false (.t 21)) 20 false,
oD 23 (.pick (.t 20) (.k (.bool true)) (.t 22)),
oD 24 (.mv (.t 23)),
oG 25 (.mv (.t 4)) 24 false,
oG 26 (.bin .neq (.t 25) (.k (.int .i64 0))) 24 false,
oD 27 (.pick (.t 24) (.k (.bool true)) (.t 26)),
oD 28 (.mv (.t 27)),
oG 29 (.mv (.t 1)) 28 false,
oG 30 (.mv (.t 3)) 28 false,
oG 31 (.icall 21 [(.t 29), (.k (.int .i64 0)), (.t 30)]) 28 false,
oG 32 (.isn .i true (.t 31)) 28 false,
oD 33 (.pick (.t 28) (.k (.bool true)) (.t 32))]
def e0_3 : AC := .reg e0l3
def e0l4 : List AOp := [oD 0 (.mv (.k (.bool false)))]
def e0_4 : AC := .reg e0l4
def e0_5 : AC := .seq e0_4 .ret
def e0_6 : AC := .cond (.t 33) e0_5 .skip
def e0_7 : AC := .seq e0_3 e0_6
def e0l8 : List AOp := [oD 35 (.mv (.t 1)),
oD 36 (.icall 22 [(.t 35), (.k (.int .i64 0))]),
oD 34 (.mv (.t 36)),
oD 37 (.ext 0 (.t 34)),
oD 38 (.ext 1 (.t 34)),
oD 5 (.mv (.t 37)),
oD 2 (.mv (.t 38))]
def e0_8 : AC := .reg e0l8
def e0l9 : List AOp := [oD 40 (.mv (.t 5)),
oD 41 (.call false 23 [(.t 40)]),
oD 39 (.mv (.t 41)),
oD 42 (.ext 0 (.t 39)),
oD 43 (.ext 1 (.t 39)),
oD 6 (.alloc [(.int .i64 0), (.int .i64 0), (.int .i64 0), (.int .i64 0), (.str [])]),
oN (.store 5 (.t 6) (.t 42)),
oD 7 (.mv (.t 43))]
def e0_9 : AC := .reg e0l9
def e0l10 : List AOp := [oD 44 (.mv (.t 2)),
oD 45 (.isn .i false (.t 44)),
oD 46 (.mv (.t 45)),
oG 47 (.mv (.t 7)) 46 true,
oG 48 (.bin .eql (.t 47) (.k (.int .i64 0))) 46 true,
oD 49 (.pick (.t 46) (.t 48) (.k (.bool false))),
oD 50 (.mv (.t 49)),
oG 51 (.faddr 2 (.t 6)) 50 true,
oG 52 (.load none (.t 51)) 50 true,
oG 53 (.bin .eql (.t 52) (.k (.int .i64 3))) 50 true,
oD 54 (.pick (.t 50) (.t 53) (.k (.bool false))),
oD 55 (.mv (.t 54)),
oG 56 (.faddr 4 (.t 6)) 55 true,
oG 57 (.load none (.t 56)) 55 true,
oG 58 (.bin .eql (.t 57) (.k (.str [97]))) 55 true,
oD 59 (.pick (.t 55) (.t 58) (.k (.bool false))),
oD 0 (.mv (.t 59))]
def e0_10 : AC := .reg e0l10
def e0_11 : AC := .seq e0_10 .ret
def e0_12 : AC := .seq e0_9 e0_11
def e0_13 : AC := .seq e0_8 e0_12
def e0_14 : AC := .seq e0_7 e0_13
def e0_15 : AC := .seq e0_2 e0_14
def e0_16 : AC := .seq e0_1 e0_15
def e0_17 : AC := .seq e0_0 e0_16
def ac_top_fine : AC := e0_17
theorem cm63 : compF Tryz.prog [1000018, 1000021, 1000022] (drawR Tryz.prog [1000018, 1000021, 1000022] Tryz.f6.ntmps) [] 0 Tryz.f6 = some (ac_top_fine, [.t 0]) := by kernel_rfl
def U63 := J oA (J (J (J (J (J @ac_top_fine.eq_1 (@mR _ _ e0_0.eq_1)) (J (@mR _ _ e0_1.eq_1) (@mR _ _ e0_2.eq_1))) (J (J (@mR _ _ e0_3.eq_1) (@mR _ _ e0_4.eq_1)) (@mU _ _ e0_5.eq_1))) (J (J (J (@mU _ _ e0_6.eq_1) (@mU _ _ e0_7.eq_1)) (J (@mR _ _ e0_8.eq_1) (@mR _ _ e0_9.eq_1))) (J (J (@mR _ _ e0_10.eq_1) (@mU _ _ e0_11.eq_1)) (@mU _ _ e0_12.eq_1)))) (J (J (J (J (@mU _ _ e0_13.eq_1) (@mU _ _ e0_14.eq_1)) (J (@mU _ _ e0_15.eq_1) (@mU _ _ e0_16.eq_1))) (J (J (@mU _ _ e0_17.eq_1) @e0l0.eq_1) @e0l1.eq_1)) (J (J (J @e0l2.eq_1 @e0l3.eq_1) @e0l4.eq_1) (J (J @e0l8.eq_1 @e0l9.eq_1) @e0l10.eq_1))))

/- scoria/scoriatop.alike -/
def e1l0 : List AOp := [oD 4 (.mv (.k (.bool false)))]
def e1_0 : AC := .reg e1l0
def e1l1 : List AOp := [oD 6 (.mv (.t 0)),
oD 7 (.len (.t 6)),
oD 8 (.mv (.t 1)),
oD 9 (.len (.t 8)),
oD 10 (.bin .neq (.t 7) (.t 9))]
def e1_1 : AC := .reg e1l1
def e1l2 : List AOp := [oD 4 (.mv (.k (.bool false)))]
def e1_2 : AC := .reg e1l2
def e1_3 : AC := .seq e1_2 .ret
def e1_4 : AC := .cond (.t 10) e1_3 .skip
def e1_5 : AC := .seq e1_1 e1_4
def e1l6 : List AOp := [oD 5 (.mv (.k (.int .i64 0)))]
def e1_6 : AC := .reg e1l6
def e1l7 : List AOp := [oD 11 (.mv (.t 5)),
oD 12 (.mv (.t 0)),
oD 13 (.len (.t 12)),
oD 14 (.bin .lss (.t 11) (.t 13))]
def e1_7 : AC := .reg e1l7
def e1_8 : AC := .cond (.t 14) .skip (.exit 0)
def e1_9 : AC := .seq e1_7 e1_8
def e1l10 : List AOp := [oD 17 (.mv (.t 0)),
oD 18 (.mv (.t 5)),
oD 19 (.isl 4 (.t 17) (.t 18)),
oD 20 (.load (some 4) (.t 19)),
oD 21 (.mv (.t 1)),
oD 22 (.mv (.t 5)),
oD 23 (.isl 4 (.t 21) (.t 22)),
oD 24 (.load (some 4) (.t 23)),
oD 25 (.eqs true [.i, .i, .i, .i] (.t 20) (.t 24))]
def e1_10 : AC := .dreg 0 e1l10
def e1l11 : List AOp := [oD 4 (.mv (.k (.bool false)))]
def e1_11 : AC := .reg e1l11
def e1_12 : AC := .seq e1_11 .ret
def e1_13 : AC := .cond (.t 25) e1_12 .skip
def e1_14 : AC := .seq e1_10 e1_13
def e1_15 : AC := .block 1 e1_14
def e1l16 : List AOp := [oD 15 (.mv (.t 5)),
oD 16 (.bin .add (.t 15) (.k (.int .i64 1))),
oD 5 (.mv (.t 16))]
def e1_16 : AC := .reg e1l16
def e1_17 : AC := .seq e1_15 e1_16
def e1_18 : AC := .seq e1_9 e1_17
def e1_19 : AC := .loop [0, 1, 5] 0 e1_18
def e1_20 : AC := .block 0 e1_19
def e1_21 : AC := .seq e1_6 e1_20
def e1l22 : List AOp := [oD 4 (.mv (.k (.bool true)))]
def e1_22 : AC := .reg e1l22
def e1_23 : AC := .seq e1_22 .ret
def e1_24 : AC := .seq e1_21 e1_23
def e1_25 : AC := .seq e1_5 e1_24
def e1_26 : AC := .seq e1_0 e1_25
def ac_top_alike : AC := e1_26
theorem cm62 : compF Tryz.prog [] (drawR Tryz.prog [] Tryz.f10.ntmps) [([0, 1, 5], 0)] 2 Tryz.f10 = some (ac_top_alike, [.t 4]) := by kernel_rfl
def U62 := J oA (J (J (J (J (J (J @ac_top_alike.eq_1 (@mR _ _ e1_0.eq_1)) (@mR _ _ e1_1.eq_1)) (J (@mR _ _ e1_2.eq_1) (@mU _ _ e1_3.eq_1))) (J (J (J (@mU _ _ e1_4.eq_1) (@mU _ _ e1_5.eq_1)) (@mR _ _ e1_6.eq_1)) (J (@mR _ _ e1_7.eq_1) (@mU _ _ e1_8.eq_1)))) (J (J (J (J (@mU _ _ e1_9.eq_1) (@mD _ _ _ e1_10.eq_1)) (@mR _ _ e1_11.eq_1)) (J (@mU _ _ e1_12.eq_1) (@mU _ _ e1_13.eq_1))) (J (J (@mU _ _ e1_14.eq_1) (@mU _ _ e1_15.eq_1)) (J (@mR _ _ e1_16.eq_1) (@mU _ _ e1_17.eq_1))))) (J (J (J (J (J (@mU _ _ e1_18.eq_1) (@mU _ _ e1_19.eq_1)) (@mU _ _ e1_20.eq_1)) (J (@mU _ _ e1_21.eq_1) (@mR _ _ e1_22.eq_1))) (J (J (@mU _ _ e1_23.eq_1) (@mU _ _ e1_24.eq_1)) (J (@mU _ _ e1_25.eq_1) (@mU _ _ e1_26.eq_1)))) (J (J (J (J @e1l0.eq_1 @e1l1.eq_1) @e1l2.eq_1) (J @e1l6.eq_1 @e1l7.eq_1)) (J (J @e1l10.eq_1 @e1l11.eq_1) (J @e1l16.eq_1 @e1l22.eq_1)))))

/- scoria/nand.New -/
def e2l0 : List AOp := [oD 1 (.box (.t 0)),
oD 2 (.mv (.k .nilp)),
oD 3 (.mv (.k .nili))]
def e2_0 : AC := .reg e2l0
def e2l1 : List AOp := [oD 4 (.faddr 0 (.t 1)),
oD 5 (.load none (.t 4)),
oD 6 (.call false 38 [(.t 5), (.k (.int .i64 16)), (.k (.int .i64 64))]),
oD 7 (.un .not (.t 6)),
oD 8 (.mv (.t 7)),
oG 9 (.faddr 1 (.t 1)) 8 false,
oG 10 (.load none (.t 9)) 8 false,
oG 11 (.call false 38 [(.t 10), (.k (.int .i64 8)), (.k (.int .i64 32))]) 8 false,
oG 12 (.un .not (.t 11)) 8 false,
oD 13 (.pick (.t 8) (.k (.bool true)) (.t 12))]
def e2_1 : AC := .reg e2l1
def e2l2 : List AOp := [oD 14 (.faddr 0 (.t 1)),
oD 15 (.load none (.t 14)),
oD 16 (.mki 30 (.k (.int .i64 1))),
oD 17 (.icall 39 [(.k (.str [110, 101, 119])), (.t 15), (.t 16)]),
oD 2 (.mv (.k .nilp)),
oD 3 (.mv (.t 17))]
def e2_2 : AC := .reg e2l2
def e2_3 : AC := .seq e2_2 .ret
def e2_4 : AC := .cond (.t 13) e2_3 .skip
def e2_5 : AC := .seq e2_1 e2_4
def e2l6 : List AOp := [⟨(some 18), .load (some 2) (.t 1), none, none, [0], none⟩,
oD 19 (.faddr 0 (.t 1)),
oD 20 (.load none (.t 19)),
  ⟨(some 21), .mks true [.nils, (.int .i64 0), (.bool false)] 40 (.t 20) (.t 20), none, (some 0), [], none⟩,
oD 22 (.build [(.int .i64 0), (.int .i64 0), .nils, (.int .i64 0), .nils, (.bool false)] [(0, 2, (.t 18)), (2, 1, (.t 21))]),
  ⟨(some 23), .box (.t 22), none, (some 1), [], none⟩,
oD 2 (.mv (.t 23)),
oD 3 (.mv (.k .nili))]
def e2_6 : AC := .dreg 2 e2l6
def e2_7 : AC := .seq e2_6 .ret
def e2_8 : AC := .seq e2_5 e2_7
def e2_9 : AC := .seq e2_0 e2_8
def ac_nand_New : AC := e2_9
theorem cm34 : compF Tryz.prog [21, 22, 1000039] (drawR Tryz.prog [21, 22, 1000039] Tryz.f18.ntmps) [] 1 Tryz.f18 = some (ac_nand_New, [.t 2, .t 3]) := by kernel_rfl
def U34 := J oA (J (J (J (J @ac_nand_New.eq_1 (@mR _ _ e2_0.eq_1)) (J (@mR _ _ e2_1.eq_1) (@mR _ _ e2_2.eq_1))) (J (J (@mU _ _ e2_3.eq_1) (@mU _ _ e2_4.eq_1)) (J (@mU _ _ e2_5.eq_1) (@mD _ _ _ e2_6.eq_1)))) (J (J (J (@mU _ _ e2_7.eq_1) (@mU _ _ e2_8.eq_1)) (J (@mU _ _ e2_9.eq_1) @e2l0.eq_1)) (J (J @e2l1.eq_1 @e2l2.eq_1) @e2l6.eq_1)))

/- scoria/scoriatop.plain -/
def e3l0 : List AOp := [oD 0 (.alloc [(.int .i64 0), (.int .i64 0)])]
def e3_0 : AC := .reg e3l0
def e3l1 : List AOp := [oD 1 (.build [(.int .i64 0), (.int .i64 0)] [(0, 1, (.k (.int .i64 16))), (1, 1, (.k (.int .i64 8)))]),
oN (.store 2 (.t 0) (.t 1))]
def e3_1 : AC := .reg e3l1
def e3_2 : AC := .seq e3_1 .ret
def e3_3 : AC := .seq e3_0 e3_2
def ac_top_plain : AC := e3_3
theorem cm64 : compF Tryz.prog [] (drawR Tryz.prog [] Tryz.f19.ntmps) [] 0 Tryz.f19 = some (ac_top_plain, [.c 0 (some 2)]) := by kernel_rfl
def U64 := J oA (J (J (J @ac_top_plain.eq_1 (@mR _ _ e3_0.eq_1)) (J (@mR _ _ e3_1.eq_1) (@mU _ _ e3_2.eq_1))) (J (J (@mU _ _ e3_3.eq_1) @e3l0.eq_1) @e3l1.eq_1))

/- (*scoria/nand.Nand).Program -/
def e4l0 : List AOp := [oD 6 (.mv (.k .nili))]
def e4_0 : AC := .reg e4l0
def e4l1 : List AOp := [oD 7 (.mv (.t 1)),
oD 8 (.mv (.t 0)),
oD 9 (.mv (.t 1)),
oD 10 (.mv (.t 2)),
oD 11 (.icall 44 [(.t 8), (.t 9), (.t 10)]),
oD 12 (.icall 39 [(.k (.str [112, 114, 111, 103, 114, 97, 109])), (.t 7), (.t 11)]),
oD 6 (.mv (.t 12))]
def e4_1 : AC := .reg e4l1
def e4_2 : AC := .seq e4_1 .ret
def e4_3 : AC := .seq e4_0 e4_2
def ac_nand_Nand_Program : AC := e4_3
theorem cm24 : compF Tryz.prog [1000044, 1000039] (drawR Tryz.prog [1000044, 1000039] Tryz.f21.ntmps) [] 3 Tryz.f21 = some (ac_nand_Nand_Program, [.t 6]) := by kernel_rfl
def U24 := J oA (J (J (J @ac_nand_Nand_Program.eq_1 (@mR _ _ e4_0.eq_1)) (J (@mR _ _ e4_1.eq_1) (@mU _ _ e4_2.eq_1))) (J (J (@mU _ _ e4_3.eq_1) @e4l0.eq_1) @e4l1.eq_1))

/- (*scoria/nand.Nand).Read -/
def e5l0 : List AOp := [oD 4 (.mv (.k (.str []))),
oD 5 (.mv (.k .nili))]
def e5_0 : AC := .reg e5l0
def e5l1 : List AOp := [oD 9 (.mv (.t 0)),
oD 10 (.mv (.t 1)),
oD 11 (.icall 45 [(.t 9), (.t 10)]),
oD 8 (.mv (.t 11)),
oD 12 (.ext 0 (.t 8)),
oD 13 (.ext 1 (.t 8)),
oD 6 (.mv (.t 12)),
oD 7 (.mv (.t 13))]
def e5_1 : AC := .reg e5l1
def e5l2 : List AOp := [oD 14 (.mv (.t 6)),
oD 15 (.mv (.t 1)),
oD 16 (.mv (.t 7)),
oD 17 (.icall 39 [(.k (.str [114, 101, 97, 100])), (.t 15), (.t 16)]),
oD 4 (.mv (.t 14)),
oD 5 (.mv (.t 17))]
def e5_2 : AC := .reg e5l2
def e5_3 : AC := .seq e5_2 .ret
def e5_4 : AC := .seq e5_1 e5_3
def e5_5 : AC := .seq e5_0 e5_4
def ac_nand_Nand_Read : AC := e5_5
theorem cm25 : compF Tryz.prog [1000045, 1000039] (drawR Tryz.prog [1000045, 1000039] Tryz.f22.ntmps) [] 2 Tryz.f22 = some (ac_nand_Nand_Read, [.t 4, .t 5]) := by kernel_rfl
def U25 := J oA (J (J (J (J @ac_nand_Nand_Read.eq_1 (@mR _ _ e5_0.eq_1)) (@mR _ _ e5_1.eq_1)) (J (@mR _ _ e5_2.eq_1) (@mU _ _ e5_3.eq_1))) (J (J (J (@mU _ _ e5_4.eq_1) (@mU _ _ e5_5.eq_1)) @e5l0.eq_1) (J @e5l1.eq_1 @e5l2.eq_1)))

/- scoria/nand.in -/
def e6l0 : List AOp := [oD 6 (.mv (.k (.bool false)))]
def e6_0 : AC := .reg e6l0
def e6l1 : List AOp := [oD 7 (.mv (.t 0)),
oD 8 (.mv (.t 1)),
oD 9 (.bin .geq (.t 7) (.t 8)),
oD 10 (.mv (.t 9)),
oG 11 (.mv (.t 0)) 10 true,
oG 12 (.mv (.t 2)) 10 true,
oG 13 (.bin .leq (.t 11) (.t 12)) 10 true,
oD 14 (.pick (.t 10) (.t 13) (.k (.bool false))),
oD 6 (.mv (.t 14))]
def e6_1 : AC := .reg e6l1
def e6_2 : AC := .seq e6_1 .ret
def e6_3 : AC := .seq e6_0 e6_2
def ac_nand_in : AC := e6_3
theorem cm35 : compF Tryz.prog [] (drawR Tryz.prog [] Tryz.f38.ntmps) [] 3 Tryz.f38 = some (ac_nand_in, [.t 6]) := by kernel_rfl
def U35 := J oA (J (J (J @ac_nand_in.eq_1 (@mR _ _ e6_0.eq_1)) (J (@mR _ _ e6_1.eq_1) (@mU _ _ e6_2.eq_1))) (J (J (@mU _ _ e6_3.eq_1) @e6l0.eq_1) @e6l1.eq_1))

/- scoria/fault.Wrap -/
def e7l0 : List AOp := [oD 6 (.mv (.k .nili))]
def e7_0 : AC := .reg e7l0
def e7l1 : List AOp := [oD 7 (.mv (.t 2)),
oD 8 (.isn .i false (.t 7))]
def e7_1 : AC := .reg e7l1
def e7l2 : List AOp := [oD 6 (.mv (.k .nili))]
def e7_2 : AC := .reg e7l2
def e7_3 : AC := .seq e7_2 .ret
def e7_4 : AC := .cond (.t 8) e7_3 .skip
def e7_5 : AC := .seq e7_1 e7_4
def e7l6 : List AOp := [oD 9 (.mv (.t 0)),
oD 10 (.mv (.t 1)),
oD 11 (.build [(.str []), (.int .i64 0)] [(0, 1, (.t 9)), (1, 1, (.t 10))]),
oD 12 (.mv (.t 2)),
oD 13 (.build [(.str []), (.int .i64 0), .nili] [(0, 2, (.t 11)), (2, 1, (.t 12))]),
oD 14 (.box (.t 13)),
oD 15 (.mki 103 (.t 14)),
oD 6 (.mv (.t 15))]
def e7_6 : AC := .reg e7l6
def e7_7 : AC := .seq e7_6 .ret
def e7_8 : AC := .seq e7_5 e7_7
def e7_9 : AC := .seq e7_0 e7_8
def ac_fault_Wrap : AC := e7_9
theorem cm16 : compF Tryz.prog [] (drawR Tryz.prog [] Tryz.f39.ntmps) [] 3 Tryz.f39 = some (ac_fault_Wrap, [.t 6]) := by kernel_rfl
def U16 := J oA (J (J (J (J @ac_fault_Wrap.eq_1 (@mR _ _ e7_0.eq_1)) (J (@mR _ _ e7_1.eq_1) (@mR _ _ e7_2.eq_1))) (J (J (@mU _ _ e7_3.eq_1) (@mU _ _ e7_4.eq_1)) (J (@mU _ _ e7_5.eq_1) (@mR _ _ e7_6.eq_1)))) (J (J (J (@mU _ _ e7_7.eq_1) (@mU _ _ e7_8.eq_1)) (J (@mU _ _ e7_9.eq_1) @e7l0.eq_1)) (J (J @e7l1.eq_1 @e7l2.eq_1) @e7l6.eq_1)))

/- (*scoria/nand.Nand).program -/
def e8l0 : List AOp := [oD 3 (.box (.t 0)),
oD 4 (.box (.t 1)),
oD 5 (.box (.t 2)),
oD 6 (.mv (.k .nili))]
def e8_0 : AC := .reg e8l0
def e8l1 : List AOp := [oD 10 (.load none (.t 3)),
oD 11 (.mkfn (.func 64) [] [(.t 3), (.t 4), (.t 5)]),
oD 12 (.icall 63 [(.t 10), (.t 11)]),
oD 7 (.mv (.t 12))]
def e8_1 : AC := .reg e8l1
def e8l2 : List AOp := [oD 13 (.mv (.t 7)),
oD 14 (.isn .i true (.t 13))]
def e8_2 : AC := .reg e8l2
def e8l3 : List AOp := [oD 15 (.mv (.t 7)),
oD 6 (.mv (.t 15))]
def e8_3 : AC := .reg e8l3
def e8_4 : AC := .seq e8_3 .ret
def e8_5 : AC := .cond (.t 14) e8_4 .skip
def e8_6 : AC := .seq e8_2 e8_5
def e8_7 : AC := .seq e8_1 e8_6
def e8l8 : List AOp := [oD 16 (.load none (.t 3)),
oD 17 (.nilck (.t 16)),
oD 18 (.faddr 2 (.t 17)),
oD 19 (.load none (.t 18)),
oD 20 (.load none (.t 4)),
oD 21 (.load none (.t 3)),
oD 22 (.nilck (.t 21)),
oD 23 (.faddr 0 (.t 22)),
oD 24 (.faddr 1 (.t 23)),
oD 25 (.load none (.t 24)),
oD 26 (.bin .quo (.t 20) (.t 25)),
oD 27 (.isl 3 (.t 19) (.t 26)),
oD 8 (.mv (.t 27))]
def e8_8 : AC := .dreg 0 e8l8
def e8l9 : List AOp := [oD 29 (.mv (.t 8)),
oD 30 (.nilck (.t 29)),
oD 31 (.faddr 2 (.t 30)),
oD 32 (.load none (.t 31)),
oD 28 (.mv (.t 32))]
def e8_9 : AC := .reg e8l9
def e8l10 : List AOp := [oD 33 (.mki 30 (.k (.int .i64 41))),
oD 6 (.mv (.t 33))]
def e8_10 : AC := .reg e8l10
def e8_11 : AC := .seq e8_10 .ret
def e8l12 : List AOp := [oD 35 (.load none (.t 4)),
oD 36 (.load none (.t 3)),
oD 37 (.nilck (.t 36)),
oD 38 (.faddr 0 (.t 37)),
oD 39 (.faddr 1 (.t 38)),
oD 40 (.load none (.t 39)),
oD 41 (.bin .rem (.t 35) (.t 40)),
oD 42 (.mv (.t 8)),
oD 43 (.nilck (.t 42)),
oD 44 (.faddr 0 (.t 43)),
oD 45 (.load none (.t 44)),
oD 46 (.len (.t 45)),
oD 47 (.bin .neq (.t 41) (.t 46)),
oD 34 (.mv (.t 47))]
def e8_12 : AC := .dreg 0 e8l12
def e8l13 : List AOp := [oD 48 (.mki 30 (.k (.int .i64 40))),
oD 6 (.mv (.t 48))]
def e8_13 : AC := .reg e8l13
def e8_14 : AC := .seq e8_13 .ret
def e8_15 : AC := .cond (.t 34) e8_14 .skip
def e8_16 : AC := .seq e8_12 e8_15
def e8_17 : AC := .cond (.t 28) e8_11 e8_16
def e8_18 : AC := .seq e8_9 e8_17
def e8_19 : AC := .block 0 e8_18
def e8l20 : List AOp := [oD 49 (.load none (.t 3)),
oD 50 (.icall 66 [(.t 49)]),
oD 9 (.alloc [(.int .i64 0), (.int .i64 0), (.int .i64 0), (.str [])]),
oN (.store 4 (.t 9) (.t 50))]
def e8_20 : AC := .reg e8l20
def e8l21 : List AOp := [oD 51 (.faddr 1 (.t 9)),
oD 52 (.load none (.t 51))]
def e8_21 : AC := .reg e8l21
def e8l22 : List AOp := [oD 54 (.bin .eql (.t 52) (.k (.int .i64 1))),
oD 53 (.mv (.t 54))]
def e8_22 : AC := .reg e8l22
def e8l23 : List AOp := [oD 55 (.mv (.t 8)),
oD 56 (.mv (.t 8)),
oD 57 (.nilck (.t 56)),
oD 58 (.faddr 0 (.t 57)),
oD 59 (.load none (.t 58)),
oD 60 (.load (some 4) (.t 9)),
oD 61 (.load none (.t 5)),
oD 62 (.call false 67 [(.t 60), (.t 61)]),
oD 63 (.blds false [(.str [])] 1 [(0, (.t 62))]),
  ⟨(some 64), .app 1 16 [(.str [])] (.t 59) (.t 63), none, (some 0), [], none⟩,
oD 65 (.nilck (.t 55)),
oD 66 (.faddr 0 (.t 65)),
oN (.store 1 (.t 66) (.t 64))]
def e8_23 : AC := .dreg 1 e8l23
def e8l24 : List AOp := [oD 67 (.load none (.t 3)),
oD 68 (.nilck (.t 67)),
oD 69 (.faddr 5 (.t 68)),
oN (.store 1 (.t 69) (.k (.bool true)))]
def e8_24 : AC := .reg e8l24
def e8l25 : List AOp := [oD 70 (.mki 30 (.k (.int .i64 9))),
oD 6 (.mv (.t 70))]
def e8_25 : AC := .reg e8l25
def e8_26 : AC := .seq e8_25 .ret
def e8_27 : AC := .seq e8_24 e8_26
def e8_28 : AC := .seq e8_23 e8_27
def e8l29 : List AOp := [oD 72 (.bin .eql (.t 52) (.k (.int .i64 2))),
oD 71 (.mv (.t 72))]
def e8_29 : AC := .reg e8l29
def e8l30 : List AOp := [oD 73 (.mv (.t 8)),
oD 74 (.mv (.t 8)),
oD 75 (.nilck (.t 74)),
oD 76 (.faddr 0 (.t 75)),
oD 77 (.load none (.t 76)),
oD 78 (.load (some 4) (.t 9)),
oD 79 (.load none (.t 5)),
oD 80 (.call false 67 [(.t 78), (.t 79)]),
oD 81 (.blds false [(.str [])] 1 [(0, (.t 80))]),
  ⟨(some 82), .app 1 16 [(.str [])] (.t 77) (.t 81), none, (some 0), [], none⟩,
oD 83 (.nilck (.t 73)),
oD 84 (.faddr 0 (.t 83)),
oN (.store 1 (.t 84) (.t 82))]
def e8_30 : AC := .dreg 1 e8l30
def e8l31 : List AOp := [oD 85 (.mv (.t 8)),
oD 86 (.nilck (.t 85)),
oD 87 (.faddr 2 (.t 86)),
oN (.store 1 (.t 87) (.k (.bool true)))]
def e8_31 : AC := .reg e8l31
def e8l32 : List AOp := [oD 88 (.mki 30 (.k (.int .i64 41))),
oD 6 (.mv (.t 88))]
def e8_32 : AC := .reg e8l32
def e8_33 : AC := .seq e8_32 .ret
def e8_34 : AC := .seq e8_31 e8_33
def e8_35 : AC := .seq e8_30 e8_34
def e8_36 : AC := .cond (.t 71) e8_35 .skip
def e8_37 : AC := .seq e8_29 e8_36
def e8_38 : AC := .cond (.t 53) e8_28 e8_37
def e8_39 : AC := .seq e8_22 e8_38
def e8_40 : AC := .block 1 e8_39
def e8_41 : AC := .seq e8_21 e8_40
def e8l42 : List AOp := [oD 89 (.mv (.t 8)),
oD 90 (.mv (.t 8)),
oD 91 (.nilck (.t 90)),
oD 92 (.faddr 0 (.t 91)),
oD 93 (.load none (.t 92)),
oD 94 (.load none (.t 5)),
oD 95 (.blds false [(.str [])] 1 [(0, (.t 94))]),
  ⟨(some 96), .app 1 16 [(.str [])] (.t 93) (.t 95), none, (some 0), [], none⟩,
oD 97 (.nilck (.t 89)),
oD 98 (.faddr 0 (.t 97)),
oN (.store 1 (.t 98) (.t 96))]
def e8_42 : AC := .dreg 1 e8l42
def e8l43 : List AOp := [oD 6 (.mv (.k .nili))]
def e8_43 : AC := .reg e8l43
def e8_44 : AC := .seq e8_43 .ret
def e8_45 : AC := .seq e8_42 e8_44
def e8_46 : AC := .seq e8_41 e8_45
def e8_47 : AC := .seq e8_20 e8_46
def e8_48 : AC := .seq e8_19 e8_47
def e8_49 : AC := .seq e8_8 e8_48
def e8_50 : AC := .seq e8_7 e8_49
def e8_51 : AC := .seq e8_0 e8_50
def ac_nand_Nand_program : AC := e8_51
theorem cm29 : compF Tryz.prog [1000063, 1000066] (drawR Tryz.prog [1000063, 1000066] Tryz.f44.ntmps) [] 3 Tryz.f44 = some (ac_nand_Nand_program, [.t 6]) := by kernel_rfl
def U29 := J oA (J (J (J (J (J (J (J @ac_nand_Nand_program.eq_1 (@mR _ _ e8_0.eq_1)) (@mR _ _ e8_1.eq_1)) (J (@mR _ _ e8_2.eq_1) (@mR _ _ e8_3.eq_1))) (J (J (J (@mU _ _ e8_4.eq_1) (@mU _ _ e8_5.eq_1)) (@mU _ _ e8_6.eq_1)) (J (@mU _ _ e8_7.eq_1) (@mD _ _ _ e8_8.eq_1)))) (J (J (J (J (@mR _ _ e8_9.eq_1) (@mR _ _ e8_10.eq_1)) (@mU _ _ e8_11.eq_1)) (J (@mD _ _ _ e8_12.eq_1) (@mR _ _ e8_13.eq_1))) (J (J (@mU _ _ e8_14.eq_1) (@mU _ _ e8_15.eq_1)) (J (@mU _ _ e8_16.eq_1) (@mU _ _ e8_17.eq_1))))) (J (J (J (J (J (@mU _ _ e8_18.eq_1) (@mU _ _ e8_19.eq_1)) (@mR _ _ e8_20.eq_1)) (J (@mR _ _ e8_21.eq_1) (@mR _ _ e8_22.eq_1))) (J (J (@mD _ _ _ e8_23.eq_1) (@mR _ _ e8_24.eq_1)) (J (@mR _ _ e8_25.eq_1) (@mU _ _ e8_26.eq_1)))) (J (J (J (J (@mU _ _ e8_27.eq_1) (@mU _ _ e8_28.eq_1)) (@mR _ _ e8_29.eq_1)) (J (@mD _ _ _ e8_30.eq_1) (@mR _ _ e8_31.eq_1))) (J (J (@mR _ _ e8_32.eq_1) (@mU _ _ e8_33.eq_1)) (J (@mU _ _ e8_34.eq_1) (@mU _ _ e8_35.eq_1)))))) (J (J (J (J (J (J (@mU _ _ e8_36.eq_1) (@mU _ _ e8_37.eq_1)) (@mU _ _ e8_38.eq_1)) (J (@mU _ _ e8_39.eq_1) (@mU _ _ e8_40.eq_1))) (J (J (J (@mU _ _ e8_41.eq_1) (@mD _ _ _ e8_42.eq_1)) (@mR _ _ e8_43.eq_1)) (J (@mU _ _ e8_44.eq_1) (@mU _ _ e8_45.eq_1)))) (J (J (J (J (@mU _ _ e8_46.eq_1) (@mU _ _ e8_47.eq_1)) (@mU _ _ e8_48.eq_1)) (J (@mU _ _ e8_49.eq_1) (@mU _ _ e8_50.eq_1))) (J (J (@mU _ _ e8_51.eq_1) @e8l0.eq_1) (J @e8l1.eq_1 @e8l2.eq_1)))) (J (J (J (J (J @e8l3.eq_1 @e8l8.eq_1) @e8l9.eq_1) (J @e8l10.eq_1 @e8l12.eq_1)) (J (J @e8l13.eq_1 @e8l20.eq_1) (J @e8l21.eq_1 @e8l22.eq_1))) (J (J (J (J @e8l23.eq_1 @e8l24.eq_1) @e8l25.eq_1) (J @e8l29.eq_1 @e8l30.eq_1)) (J (J @e8l31.eq_1 @e8l32.eq_1) (J @e8l42.eq_1 @e8l43.eq_1))))))

/- (*scoria/nand.Nand).read -/
def e9l0 : List AOp := [oD 2 (.box (.t 0)),
oD 3 (.box (.t 1)),
oD 4 (.mv (.k (.str []))),
oD 5 (.mv (.k .nili))]
def e9_0 : AC := .reg e9l0
def e9l1 : List AOp := [oD 9 (.load none (.t 2)),
oD 10 (.mkfn (.func 68) [] [(.t 2), (.t 3)]),
oD 11 (.icall 63 [(.t 9), (.t 10)]),
oD 6 (.mv (.t 11))]
def e9_1 : AC := .reg e9l1
def e9l2 : List AOp := [oD 12 (.mv (.t 6)),
oD 13 (.isn .i true (.t 12))]
def e9_2 : AC := .reg e9l2
def e9l3 : List AOp := [oD 14 (.mv (.t 6)),
oD 4 (.mv (.k (.str []))),
oD 5 (.mv (.t 14))]
def e9_3 : AC := .reg e9l3
def e9_4 : AC := .seq e9_3 .ret
def e9_5 : AC := .cond (.t 13) e9_4 .skip
def e9_6 : AC := .seq e9_2 e9_5
def e9_7 : AC := .seq e9_1 e9_6
def e9l8 : List AOp := [oD 15 (.load none (.t 2)),
oD 16 (.nilck (.t 15)),
oD 17 (.faddr 2 (.t 16)),
oD 18 (.load none (.t 17)),
oD 19 (.load none (.t 3)),
oD 20 (.load none (.t 2)),
oD 21 (.nilck (.t 20)),
oD 22 (.faddr 0 (.t 21)),
oD 23 (.faddr 1 (.t 22)),
oD 24 (.load none (.t 23)),
oD 25 (.bin .quo (.t 19) (.t 24)),
oD 26 (.isl 3 (.t 18) (.t 25)),
oD 27 (.load none (.t 3)),
oD 28 (.load none (.t 2)),
oD 29 (.nilck (.t 28)),
oD 30 (.faddr 0 (.t 29)),
oD 31 (.faddr 1 (.t 30)),
oD 32 (.load none (.t 31)),
oD 33 (.bin .rem (.t 27) (.t 32)),
oD 7 (.mv (.t 26)),
oD 8 (.mv (.t 33))]
def e9_8 : AC := .dreg 0 e9l8
def e9l9 : List AOp := [oD 34 (.mv (.t 8)),
oD 35 (.mv (.t 7)),
oD 36 (.nilck (.t 35)),
oD 37 (.faddr 0 (.t 36)),
oD 38 (.load none (.t 37)),
oD 39 (.len (.t 38)),
oD 40 (.bin .geq (.t 34) (.t 39))]
def e9_9 : AC := .reg e9l9
def e9l10 : List AOp := [oD 41 (.mki 30 (.k (.int .i64 42))),
oD 4 (.mv (.k (.str []))),
oD 5 (.mv (.t 41))]
def e9_10 : AC := .reg e9l10
def e9_11 : AC := .seq e9_10 .ret
def e9_12 : AC := .cond (.t 40) e9_11 .skip
def e9_13 : AC := .seq e9_9 e9_12
def e9l14 : List AOp := [oD 42 (.mv (.t 7)),
oD 43 (.nilck (.t 42)),
oD 44 (.faddr 0 (.t 43)),
oD 45 (.load none (.t 44)),
oD 46 (.mv (.t 8)),
oD 47 (.isl 1 (.t 45) (.t 46)),
oD 48 (.load none (.t 47)),
oD 4 (.mv (.t 48)),
oD 5 (.mv (.k .nili))]
def e9_14 : AC := .reg e9l14
def e9_15 : AC := .seq e9_14 .ret
def e9_16 : AC := .seq e9_13 e9_15
def e9_17 : AC := .seq e9_8 e9_16
def e9_18 : AC := .seq e9_7 e9_17
def e9_19 : AC := .seq e9_0 e9_18
def ac_nand_Nand_read : AC := e9_19
theorem cm31 : compF Tryz.prog [1000063] (drawR Tryz.prog [1000063] Tryz.f45.ntmps) [] 2 Tryz.f45 = some (ac_nand_Nand_read, [.t 4, .t 5]) := by kernel_rfl
def U31 := J oA (J (J (J (J (J @ac_nand_Nand_read.eq_1 (@mR _ _ e9_0.eq_1)) (J (@mR _ _ e9_1.eq_1) (@mR _ _ e9_2.eq_1))) (J (J (@mR _ _ e9_3.eq_1) (@mU _ _ e9_4.eq_1)) (J (@mU _ _ e9_5.eq_1) (@mU _ _ e9_6.eq_1)))) (J (J (J (@mU _ _ e9_7.eq_1) (@mD _ _ _ e9_8.eq_1)) (J (@mR _ _ e9_9.eq_1) (@mR _ _ e9_10.eq_1))) (J (J (@mU _ _ e9_11.eq_1) (@mU _ _ e9_12.eq_1)) (@mU _ _ e9_13.eq_1)))) (J (J (J (J (@mR _ _ e9_14.eq_1) (@mU _ _ e9_15.eq_1)) (J (@mU _ _ e9_16.eq_1) (@mU _ _ e9_17.eq_1))) (J (J (@mU _ _ e9_18.eq_1) (@mU _ _ e9_19.eq_1)) @e9l0.eq_1)) (J (J (J @e9l1.eq_1 @e9l2.eq_1) (J @e9l3.eq_1 @e9l8.eq_1)) (J (J @e9l9.eq_1 @e9l10.eq_1) @e9l14.eq_1))))

/- (*scoria/nand.Nand).ready -/
def e10l0 : List AOp := [oD 4 (.mv (.k .nili))]
def e10_0 : AC := .reg e10l0
def e10l1 : List AOp := [oD 6 (.mv (.t 0)),
oD 7 (.isn .p false (.t 6)),
oD 5 (.mv (.t 7))]
def e10_1 : AC := .reg e10l1
def e10l2 : List AOp := [oD 8 (.mki 30 (.k (.int .i64 1))),
oD 4 (.mv (.t 8))]
def e10_2 : AC := .reg e10l2
def e10_3 : AC := .seq e10_2 .ret
def e10l4 : List AOp := [oD 10 (.mv (.t 0)),
oD 11 (.nilck (.t 10)),
oD 12 (.faddr 5 (.t 11)),
oD 13 (.load none (.t 12)),
oD 9 (.mv (.t 13))]
def e10_4 : AC := .reg e10l4
def e10l5 : List AOp := [oD 14 (.mki 30 (.k (.int .i64 9))),
oD 4 (.mv (.t 14))]
def e10_5 : AC := .reg e10l5
def e10_6 : AC := .seq e10_5 .ret
def e10l7 : List AOp := [oD 16 (.mv (.t 1)),
oD 17 (.icallv (.t 16) []),
oD 18 (.un .not (.t 17)),
oD 15 (.mv (.t 18))]
def e10_7 : AC := .reg e10l7
def e10l8 : List AOp := [oD 19 (.mki 30 (.k (.int .i64 1))),
oD 4 (.mv (.t 19))]
def e10_8 : AC := .reg e10l8
def e10_9 : AC := .seq e10_8 .ret
def e10_10 : AC := .cond (.t 15) e10_9 .skip
def e10_11 : AC := .seq e10_7 e10_10
def e10_12 : AC := .cond (.t 9) e10_6 e10_11
def e10_13 : AC := .seq e10_4 e10_12
def e10_14 : AC := .cond (.t 5) e10_3 e10_13
def e10_15 : AC := .seq e10_1 e10_14
def e10_16 : AC := .block 0 e10_15
def e10l17 : List AOp := [oD 4 (.mv (.k .nili))]
def e10_17 : AC := .reg e10l17
def e10_18 : AC := .seq e10_17 .ret
def e10_19 : AC := .seq e10_16 e10_18
def e10_20 : AC := .seq e10_0 e10_19
def ac_nand_Nand_ready : AC := e10_20
theorem cm33 : compF Tryz.prog [2000000] (drawR Tryz.prog [2000000] Tryz.f63.ntmps) [] 2 Tryz.f63 = some (ac_nand_Nand_ready, [.t 4]) := by kernel_rfl
def U33 := J oA (J (J (J (J (J @ac_nand_Nand_ready.eq_1 (@mR _ _ e10_0.eq_1)) (J (@mR _ _ e10_1.eq_1) (@mR _ _ e10_2.eq_1))) (J (J (@mU _ _ e10_3.eq_1) (@mR _ _ e10_4.eq_1)) (J (@mR _ _ e10_5.eq_1) (@mU _ _ e10_6.eq_1)))) (J (J (J (@mR _ _ e10_7.eq_1) (@mR _ _ e10_8.eq_1)) (J (@mU _ _ e10_9.eq_1) (@mU _ _ e10_10.eq_1))) (J (J (@mU _ _ e10_11.eq_1) (@mU _ _ e10_12.eq_1)) (@mU _ _ e10_13.eq_1)))) (J (J (J (J (@mU _ _ e10_14.eq_1) (@mU _ _ e10_15.eq_1)) (J (@mU _ _ e10_16.eq_1) (@mR _ _ e10_17.eq_1))) (J (J (@mU _ _ e10_18.eq_1) (@mU _ _ e10_19.eq_1)) (J (@mU _ _ e10_20.eq_1) @e10l0.eq_1))) (J (J (J @e10l1.eq_1 @e10l2.eq_1) (J @e10l4.eq_1 @e10l5.eq_1)) (J (J @e10l7.eq_1 @e10l8.eq_1) @e10l17.eq_1))))

/- (*scoria/nand.Nand).program$1 -/
def e11l0 : List AOp := [oD 3 (.mv (.k (.bool false)))]
def e11_0 : AC := .reg e11l0
def e11l1 : List AOp := [oD 4 (.load none (.t 0)),
oD 5 (.load none (.t 1)),
oD 6 (.rcall 65 [(.t 4), (.t 5)]),
oD 7 (.mv (.t 6)),
oG 8 (.load none (.t 2)) 7 true,
oG 9 (.lens (.t 8)) 7 true,
oG 10 (.bin .leq (.t 9) (.k (.int .i64 128))) 7 true,
oD 11 (.pick (.t 7) (.t 10) (.k (.bool false))),
oD 3 (.mv (.t 11))]
def e11_1 : AC := .reg e11l1
def e11_2 : AC := .seq e11_1 .ret
def e11_3 : AC := .seq e11_0 e11_2
def ac_nand_Nand_program_c1 : AC := e11_3
theorem cm30 : compF Tryz.prog [4000065] (drawR Tryz.prog [4000065] Tryz.f64.ntmps) [] 3 Tryz.f64 = some (ac_nand_Nand_program_c1, [.t 3]) := by kernel_rfl
def U30 := J oA (J (J (J @ac_nand_Nand_program_c1.eq_1 (@mR _ _ e11_0.eq_1)) (J (@mR _ _ e11_1.eq_1) (@mU _ _ e11_2.eq_1))) (J (J (@mU _ _ e11_3.eq_1) @e11l0.eq_1) @e11l1.eq_1))

/- (*scoria/nand.Nand).page -/
def e12l0 : List AOp := [oD 4 (.mv (.k (.bool false)))]
def e12_0 : AC := .reg e12l0
def e12l1 : List AOp := [oD 5 (.mv (.t 1)),
oD 6 (.bin .geq (.t 5) (.k (.int .i64 0))),
oD 7 (.mv (.t 6)),
oG 8 (.mv (.t 1)) 7 true,
oG 9 (.mv (.t 0)) 7 true,
oG 10 (.nilck (.t 9)) 7 true,
oG 11 (.faddr 0 (.t 10)) 7 true,
oG 12 (.faddr 0 (.t 11)) 7 true,
oG 13 (.load none (.t 12)) 7 true,
oG 14 (.mv (.t 0)) 7 true,
oG 15 (.nilck (.t 14)) 7 true,
oG 16 (.faddr 0 (.t 15)) 7 true,
oG 17 (.faddr 1 (.t 16)) 7 true,
oG 18 (.load none (.t 17)) 7 true,
oG 19 (.bin .mul (.t 13) (.t 18)) 7 true,
oG 20 (.bin .lss (.t 8) (.t 19)) 7 true,
oD 21 (.pick (.t 7) (.t 20) (.k (.bool false))),
oD 4 (.mv (.t 21))]
def e12_1 : AC := .dreg 0 e12l1
def e12_2 : AC := .seq e12_1 .ret
def e12_3 : AC := .seq e12_0 e12_2
def ac_nand_Nand_page : AC := e12_3
theorem cm28 : compF Tryz.prog [] (drawR Tryz.prog [] Tryz.f65.ntmps) [] 2 Tryz.f65 = some (ac_nand_Nand_page, [.t 4]) := by kernel_rfl
def U28 := J oA (J (J (J @ac_nand_Nand_page.eq_1 (@mR _ _ e12_0.eq_1)) (J (@mD _ _ _ e12_1.eq_1) (@mU _ _ e12_2.eq_1))) (J (J (@mU _ _ e12_3.eq_1) @e12l0.eq_1) @e12l1.eq_1))

/- (*scoria/nand.Nand).count -/
def e13l0 : List AOp := [oD 1 (.box (.t 0)),
oD 2 (.alloc [(.int .i64 0), (.int .i64 0), (.int .i64 0), (.str [])])]
def e13_0 : AC := .reg e13l0
def e13l1 : List AOp := [oD 4 (.load none (.t 1)),
oD 5 (.nilck (.t 4)),
oD 6 (.faddr 3 (.t 5)),
oD 7 (.load none (.t 6)),
oD 8 (.bin .add (.t 7) (.k (.int .i64 1))),
oD 9 (.nilck (.t 4)),
oD 10 (.faddr 3 (.t 9)),
oN (.store 1 (.t 10) (.t 8))]
def e13_1 : AC := .reg e13l1
def e13l2 : List AOp := [oD 11 (.load none (.t 1)),
oD 12 (.nilck (.t 11)),
oD 13 (.faddr 4 (.t 12)),
oD 14 (.load none (.t 13)),
oD 15 (.mkfn (.func 79) [] [(.t 1)]),
oD 16 (.icall 78 [(.t 14), (.t 15)]),
oD 3 (.mv (.t 16))]
def e13_2 : AC := .reg e13l2
def e13l3 : List AOp := [oD 17 (.mv (.t 3)),
oD 18 (.bin .lss (.t 17) (.k (.int .i64 0)))]
def e13_3 : AC := .reg e13l3
def e13l4 : List AOp := [oD 19 (.build [(.int .i64 0), (.int .i64 0), (.int .i64 0), (.str [])] []),
oN (.store 4 (.t 2) (.t 19))]
def e13_4 : AC := .reg e13l4
def e13_5 : AC := .seq e13_4 .ret
def e13_6 : AC := .cond (.t 18) e13_5 .skip
def e13_7 : AC := .seq e13_3 e13_6
def e13l8 : List AOp := [oD 20 (.load none (.t 1)),
oD 21 (.nilck (.t 20)),
oD 22 (.faddr 4 (.t 21)),
oD 23 (.load none (.t 22)),
oD 24 (.mv (.t 3)),
oD 25 (.isl 4 (.t 23) (.t 24)),
oD 26 (.load (some 4) (.t 25)),
oN (.store 4 (.t 2) (.t 26))]
def e13_8 : AC := .reg e13l8
def e13_9 : AC := .seq e13_8 .ret
def e13_10 : AC := .seq e13_7 e13_9
def e13_11 : AC := .seq e13_2 e13_10
def e13_12 : AC := .seq e13_1 e13_11
def e13_13 : AC := .seq e13_0 e13_12
def ac_nand_Nand_count : AC := e13_13
theorem cm26 : compF Tryz.prog [1000078] (drawR Tryz.prog [1000078] Tryz.f66.ntmps) [] 1 Tryz.f66 = some (ac_nand_Nand_count, [.c 2 (some 4)]) := by kernel_rfl
def U26 := J oA (J (J (J (J (J @ac_nand_Nand_count.eq_1 (@mR _ _ e13_0.eq_1)) (@mR _ _ e13_1.eq_1)) (J (J (@mR _ _ e13_2.eq_1) (@mR _ _ e13_3.eq_1)) (@mR _ _ e13_4.eq_1))) (J (J (J (@mU _ _ e13_5.eq_1) (@mU _ _ e13_6.eq_1)) (@mU _ _ e13_7.eq_1)) (J (@mR _ _ e13_8.eq_1) (@mU _ _ e13_9.eq_1)))) (J (J (J (J (@mU _ _ e13_10.eq_1) (@mU _ _ e13_11.eq_1)) (@mU _ _ e13_12.eq_1)) (J (@mU _ _ e13_13.eq_1) @e13l0.eq_1)) (J (J (J @e13l1.eq_1 @e13l2.eq_1) @e13l3.eq_1) (J @e13l4.eq_1 @e13l8.eq_1))))

/- scoria/nand.spoilt -/
def e14l0 : List AOp := [oD 2 (.box (.t 0)),
oD 4 (.mv (.k (.str [])))]
def e14_0 : AC := .reg e14l0
def e14l1 : List AOp := [oD 6 (.mv (.t 1)),
oD 7 (.faddr 2 (.t 2)),
oD 8 (.load none (.t 7)),
oD 9 (.mv (.t 1)),
oD 10 (.lens (.t 9)),
oD 11 (.mm false [(.t 8), (.t 10)]),
oD 12 (.mm true [(.t 11), (.k (.int .i64 0))]),
oD 13 (.sstr (.t 6) none (some (.t 12))),
oD 14 (.faddr 3 (.t 2)),
oD 15 (.load none (.t 14)),
oD 16 (.bin .add (.t 13) (.t 15)),
oD 5 (.mv (.t 16))]
def e14_1 : AC := .dreg 0 e14l1
def e14l2 : List AOp := [oD 17 (.mv (.t 5)),
oD 18 (.mv (.t 5)),
oD 19 (.lens (.t 18)),
oD 20 (.mm false [(.t 19), (.k (.int .i64 128))]),
oD 21 (.sstr (.t 17) none (some (.t 20))),
oD 4 (.mv (.t 21))]
def e14_2 : AC := .reg e14l2
def e14_3 : AC := .seq e14_2 .ret
def e14_4 : AC := .seq e14_1 e14_3
def e14_5 : AC := .seq e14_0 e14_4
def ac_nand_spoilt : AC := e14_5
theorem cm36 : compF Tryz.prog [] (drawR Tryz.prog [] Tryz.f67.ntmps) [] 2 Tryz.f67 = some (ac_nand_spoilt, [.t 4]) := by kernel_rfl
def U36 := J oA (J (J (J (J @ac_nand_spoilt.eq_1 (@mR _ _ e14_0.eq_1)) (@mD _ _ _ e14_1.eq_1)) (J (@mR _ _ e14_2.eq_1) (@mU _ _ e14_3.eq_1))) (J (J (J (@mU _ _ e14_4.eq_1) (@mU _ _ e14_5.eq_1)) @e14l0.eq_1) (J @e14l1.eq_1 @e14l2.eq_1)))

/- (*scoria/nand.Nand).read$1 -/
def e15l0 : List AOp := [oD 2 (.mv (.k (.bool false)))]
def e15_0 : AC := .reg e15l0
def e15l1 : List AOp := [oD 3 (.load none (.t 0)),
oD 4 (.load none (.t 1)),
oD 5 (.rcall 65 [(.t 3), (.t 4)]),
oD 2 (.mv (.t 5))]
def e15_1 : AC := .reg e15l1
def e15_2 : AC := .seq e15_1 .ret
def e15_3 : AC := .seq e15_0 e15_2
def ac_nand_Nand_read_c1 : AC := e15_3
theorem cm32 : compF Tryz.prog [4000065] (drawR Tryz.prog [4000065] Tryz.f68.ntmps) [] 2 Tryz.f68 = some (ac_nand_Nand_read_c1, [.t 2]) := by kernel_rfl
def U32 := J oA (J (J (J @ac_nand_Nand_read_c1.eq_1 (@mR _ _ e15_0.eq_1)) (J (@mR _ _ e15_1.eq_1) (@mU _ _ e15_2.eq_1))) (J (J (@mU _ _ e15_3.eq_1) @e15l0.eq_1) @e15l1.eq_1))

/- slices.IndexFunc[[]scoria/api.Mishap,scoria/api.Mishap] -/
def e16l0 : List AOp := [oD 4 (.mv (.k (.int .i64 0)))]
def e16_0 : AC := .reg e16l0
def e16l1 : List AOp := [oD 6 (.mv (.t 0)),
oD 7 (.len (.t 6)),
oD 8 (.mv (.k (.int .i64 0)))]
def e16_1 : AC := .reg e16l1
def e16l2 : List AOp := [oD 9 (.bin .lss (.t 8) (.t 7))]
def e16_2 : AC := .reg e16l2
def e16_3 : AC := .cond (.t 9) .skip (.exit 0)
def e16l4 : List AOp := [oD 10 (.mv (.t 8)),
oD 5 (.mv (.t 10))]
def e16_4 : AC := .reg e16l4
def e16l5 : List AOp := [oD 11 (.mv (.t 1)),
oD 12 (.mv (.t 0)),
oD 13 (.mv (.t 5)),
oD 14 (.isl 4 (.t 12) (.t 13)),
oD 15 (.load (some 4) (.t 14)),
oD 16 (.icallv (.t 11) [(.t 15)])]
def e16_5 : AC := .reg e16l5
def e16l6 : List AOp := [oD 17 (.mv (.t 5)),
oD 4 (.mv (.t 17))]
def e16_6 : AC := .reg e16l6
def e16_7 : AC := .seq e16_6 .ret
def e16_8 : AC := .cond (.t 16) e16_7 .skip
def e16_9 : AC := .seq e16_5 e16_8
def e16_10 : AC := .seq e16_4 e16_9
def e16_11 : AC := .block 1 e16_10
def e16l12 : List AOp := [oD 18 (.bin .add (.t 8) (.k (.int .i64 1))),
oD 8 (.mv (.t 18))]
def e16_12 : AC := .reg e16l12
def e16_13 : AC := .seq e16_11 e16_12
def e16_14 : AC := .seq e16_3 e16_13
def e16_15 : AC := .seq e16_2 e16_14
def e16_16 : AC := .loop [0, 1, 7, 8] 1000000000 e16_15
def e16_17 : AC := .block 0 e16_16
def e16_18 : AC := .seq e16_1 e16_17
def e16l19 : List AOp := [oD 4 (.mv (.k (.int .i64 (-1))))]
def e16_19 : AC := .reg e16l19
def e16_20 : AC := .seq e16_19 .ret
def e16_21 : AC := .seq e16_18 e16_20
def e16_22 : AC := .seq e16_0 e16_21
def ac_slices_IndexFunc_api_Mishap : AC := e16_22
theorem cm54 : compF Tryz.prog [2000000] (drawR Tryz.prog [2000000] Tryz.f78.ntmps) [([0, 1, 7, 8], 1000000000)] 2 Tryz.f78 = some (ac_slices_IndexFunc_api_Mishap, [.t 4]) := by kernel_rfl
def U54 := J oA (J (J (J (J (J @ac_slices_IndexFunc_api_Mishap.eq_1 (@mR _ _ e16_0.eq_1)) (J (@mR _ _ e16_1.eq_1) (@mR _ _ e16_2.eq_1))) (J (J (@mU _ _ e16_3.eq_1) (@mR _ _ e16_4.eq_1)) (J (@mR _ _ e16_5.eq_1) (@mR _ _ e16_6.eq_1)))) (J (J (J (@mU _ _ e16_7.eq_1) (@mU _ _ e16_8.eq_1)) (J (@mU _ _ e16_9.eq_1) (@mU _ _ e16_10.eq_1))) (J (J (@mU _ _ e16_11.eq_1) (@mR _ _ e16_12.eq_1)) (J (@mU _ _ e16_13.eq_1) (@mU _ _ e16_14.eq_1))))) (J (J (J (J (@mU _ _ e16_15.eq_1) (@mU _ _ e16_16.eq_1)) (J (@mU _ _ e16_17.eq_1) (@mU _ _ e16_18.eq_1))) (J (J (@mR _ _ e16_19.eq_1) (@mU _ _ e16_20.eq_1)) (J (@mU _ _ e16_21.eq_1) (@mU _ _ e16_22.eq_1)))) (J (J (J @e16l0.eq_1 @e16l1.eq_1) (J @e16l2.eq_1 @e16l4.eq_1)) (J (J @e16l5.eq_1 @e16l6.eq_1) (J @e16l12.eq_1 @e16l19.eq_1)))))

/- (*scoria/nand.Nand).count$1 -/
def e17l0 : List AOp := [oD 2 (.box (.t 0)),
oD 3 (.mv (.k (.bool false)))]
def e17_0 : AC := .reg e17l0
def e17l1 : List AOp := [oD 4 (.faddr 0 (.t 2)),
oD 5 (.load none (.t 4)),
oD 6 (.load none (.t 1)),
oD 7 (.nilck (.t 6)),
oD 8 (.faddr 3 (.t 7)),
oD 9 (.load none (.t 8)),
oD 10 (.bin .eql (.t 5) (.t 9)),
oD 3 (.mv (.t 10))]
def e17_1 : AC := .dreg 0 e17l1
def e17_2 : AC := .seq e17_1 .ret
def e17_3 : AC := .seq e17_0 e17_2
def ac_nand_Nand_count_c1 : AC := e17_3
theorem cm27 : compF Tryz.prog [] (drawR Tryz.prog [] Tryz.f79.ntmps) [] 2 Tryz.f79 = some (ac_nand_Nand_count_c1, [.t 3]) := by kernel_rfl
def U27 := J oA (J (J (J @ac_nand_Nand_count_c1.eq_1 (@mR _ _ e17_0.eq_1)) (J (@mD _ _ _ e17_1.eq_1) (@mU _ _ e17_2.eq_1))) (J (J (@mU _ _ e17_3.eq_1) @e17l0.eq_1) @e17l1.eq_1))

end Go.Proofs.YtdgpiobmncohjaaGreat.Aw
namespace Go.Proofs.YtdgpiobmncohjaaGreat.Aw
open Go.RowKit
/- scoria/scoriatop.TopWays -/
def f0l0 : List AOp := [oD 2 (.mv (.k (.bool false)))]
def f0_0 : AC := .reg f0l0
def f0l1 : List AOp := [oD 8 (.icall 5 []),
oD 9 (.icall 5 []),
oD 3 (.mv (.t 8)),
oD 4 (.mv (.t 9))]
def f0_1 : AC := .reg f0l1
def f0l2 : List AOp := [oD 10 (.call false 6 []),
oD 11 (.un .not (.t 10)),
oD 12 (.mv (.t 11)),
oG 13 (.mv (.t 3)) 12 false,
oG 14 (.isn .p false (.t 13)) 12 false,
oD 15 (.pick (.t 12) (.k (.bool true)) (.t 14)),
oD 16 (.mv (.t 15)),
oG 17 (.mv (.t 4)) 16 false,
oG 18 (.isn .p false (.t 17)) 16 false,
oD 19 (.pick (.t 16) (.k (.bool true)) (.t 18))]
def f0_2 : AC := .reg f0l2
def f0l3 : List AOp := [oD 2 (.mv (.k (.bool false)))]
def f0_3 : AC := .reg f0l3
def f0_4 : AC := .seq f0_3 .ret
def f0_5 : AC := .cond (.t 19) f0_4 .skip
def f0_6 : AC := .seq f0_2 f0_5
def f0l7 : List AOp := [oD 5 (.mv (.k (.int .i64 0)))]
def f0_7 : AC := .reg f0l7
def f0l8 : List AOp := [oD 20 (.mv (.t 5)),
oD 21 (.mv (.t 0)),
oD 22 (.len (.t 21)),
oD 23 (.bin .lss (.t 20) (.t 22)),
oD 24 (.mv (.t 23)),
oG 25 (.mv (.t 5)) 24 true,
oG 26 (.bin .lss (.t 25) (.k (.int .i64 100))) 24 true,
oD 27 (.pick (.t 24) (.t 26) (.k (.bool false)))]
def f0_8 : AC := .reg f0l8
def f0_9 : AC := .cond (.t 27) .skip (.exit 0)
def f0_10 : AC := .seq f0_8 f0_9
def f0l11 : List AOp := [oD 30 (.mv (.t 0)),
oD 31 (.mv (.t 5)),
oD 32 (.isl 5 (.t 30) (.t 31)),
oD 33 (.faddr 4 (.t 32)),
oD 34 (.load none (.t 33))]
def f0_11 : AC := .reg f0l11
def f0l12 : List AOp := [oD 35 (.mv (.t 3)),
oD 36 (.mv (.t 0)),
oD 37 (.mv (.t 5)),
oD 38 (.isl 5 (.t 36) (.t 37)),
oD 39 (.faddr 0 (.t 38)),
oD 40 (.faddr 0 (.t 39)),
oD 41 (.load none (.t 40)),
oD 42 (.mv (.t 0)),
oD 43 (.mv (.t 5)),
oD 44 (.isl 5 (.t 42) (.t 43)),
oD 45 (.faddr 0 (.t 44)),
oD 46 (.faddr 1 (.t 45)),
oD 47 (.load none (.t 46)),
oD 48 (.icall 7 [(.t 35), (.t 41), (.t 47)])]
def f0_12 : AC := .dreg 0 f0l12
def f0l13 : List AOp := [oD 49 (.mv (.t 3)),
oD 50 (.mv (.t 0)),
oD 51 (.mv (.t 5)),
oD 52 (.isl 5 (.t 50) (.t 51)),
oD 53 (.faddr 0 (.t 52)),
oD 54 (.load (some 4) (.t 53)),
oD 55 (.icall 8 [(.t 49), (.t 54)])]
def f0_13 : AC := .reg f0l13
def f0_14 : AC := .cond (.t 34) f0_12 f0_13
def f0_15 : AC := .seq f0_11 f0_14
def f0_16 : AC := .block 1 f0_15
def f0l17 : List AOp := [oD 28 (.mv (.t 5)),
oD 29 (.bin .add (.t 28) (.k (.int .i64 1))),
oD 5 (.mv (.t 29))]
def f0_17 : AC := .reg f0l17
def f0_18 : AC := .seq f0_16 f0_17
def f0_19 : AC := .seq f0_10 f0_18
def f0_20 : AC := .loop [0, 3, 4, 5] 1000000000 f0_19
def f0_21 : AC := .block 0 f0_20
def f0_22 : AC := .seq f0_7 f0_21
def f0l23 : List AOp := [oD 56 (.mv (.t 3)),
oD 57 (.icall 9 [(.t 56)]),
oD 6 (.mv (.t 57))]
def f0_23 : AC := .reg f0l23
def f0l24 : List AOp := [oD 58 (.mv (.t 6)),
oD 59 (.len (.t 58)),
oD 60 (.bin .sub (.t 59) (.k (.int .i64 1))),
oD 7 (.mv (.t 60))]
def f0_24 : AC := .reg f0l24
def f0l25 : List AOp := [oD 61 (.mv (.t 7)),
oD 62 (.bin .geq (.t 61) (.k (.int .i64 0)))]
def f0_25 : AC := .reg f0l25
def f0_26 : AC := .cond (.t 62) .skip (.exit 2)
def f0_27 : AC := .seq f0_25 f0_26
def f0l28 : List AOp := [oD 65 (.mv (.t 4)),
oD 66 (.mv (.t 6)),
oD 67 (.mv (.t 7)),
oD 68 (.isl 4 (.t 66) (.t 67)),
oD 69 (.load (some 4) (.t 68)),
oD 70 (.icall 8 [(.t 65), (.t 69)]),
oD 71 (.bin .neq (.t 70) (.k (.int .i64 0)))]
def f0_28 : AC := .reg f0l28
def f0l29 : List AOp := [oD 2 (.mv (.k (.bool false)))]
def f0_29 : AC := .reg f0l29
def f0_30 : AC := .seq f0_29 .ret
def f0_31 : AC := .cond (.t 71) f0_30 .skip
def f0_32 : AC := .seq f0_28 f0_31
def f0_33 : AC := .block 3 f0_32
def f0l34 : List AOp := [oD 63 (.mv (.t 7)),
oD 64 (.bin .sub (.t 63) (.k (.int .i64 1))),
oD 7 (.mv (.t 64))]
def f0_34 : AC := .reg f0l34
def f0_35 : AC := .seq f0_33 f0_34
def f0_36 : AC := .seq f0_27 f0_35
def f0_37 : AC := .loop [3, 4, 6, 7] 1000000000 f0_36
def f0_38 : AC := .block 2 f0_37
def f0_39 : AC := .seq f0_24 f0_38
def f0l40 : List AOp := [oD 72 (.mv (.t 4)),
oD 73 (.icall 9 [(.t 72)]),
oD 74 (.mv (.t 6)),
oD 75 (.call false 10 [(.t 73), (.t 74)]),
oD 76 (.mv (.t 75)),
oG 77 (.mv (.t 4)) 76 true,
oG 78 (.icall 11 [(.t 77)]) 76 true,
oG 79 (.mv (.t 3)) 76 true,
oG 80 (.icall 11 [(.t 79)]) 76 true,
oG 81 (.bin .eql (.t 78) (.t 80)) 76 true,
oD 82 (.pick (.t 76) (.t 81) (.k (.bool false))),
oD 2 (.mv (.t 82))]
def f0_40 : AC := .reg f0l40
def f0_41 : AC := .seq f0_40 .ret
def f0_42 : AC := .seq f0_39 f0_41
def f0_43 : AC := .seq f0_23 f0_42
def f0_44 : AC := .seq f0_22 f0_43
def f0_45 : AC := .seq f0_6 f0_44
def f0_46 : AC := .seq f0_1 f0_45
def f0_47 : AC := .seq f0_0 f0_46
def ac_top_TopWays : AC := f0_47
theorem cm61 : compF Tryz.prog [1000005, 1000007, 1000008, 1000009, 1000011] (drawR Tryz.prog [1000005, 1000007, 1000008, 1000009, 1000011] Tryz.f3.ntmps) [([0, 3, 4, 5], 1000000000), ([3, 4, 6, 7], 1000000000)] 1 Tryz.f3 = some (ac_top_TopWays, [.t 2]) := by kernel_rfl
def U61 := J oA (J (J (J (J (J (J (J @ac_top_TopWays.eq_1 (@mR _ _ f0_0.eq_1)) (@mR _ _ f0_1.eq_1)) (J (@mR _ _ f0_2.eq_1) (@mR _ _ f0_3.eq_1))) (J (J (@mU _ _ f0_4.eq_1) (@mU _ _ f0_5.eq_1)) (J (@mU _ _ f0_6.eq_1) (@mR _ _ f0_7.eq_1)))) (J (J (J (@mR _ _ f0_8.eq_1) (@mU _ _ f0_9.eq_1)) (J (@mU _ _ f0_10.eq_1) (@mR _ _ f0_11.eq_1))) (J (J (@mD _ _ _ f0_12.eq_1) (@mR _ _ f0_13.eq_1)) (J (@mU _ _ f0_14.eq_1) (@mU _ _ f0_15.eq_1))))) (J (J (J (J (@mU _ _ f0_16.eq_1) (@mR _ _ f0_17.eq_1)) (J (@mU _ _ f0_18.eq_1) (@mU _ _ f0_19.eq_1))) (J (J (@mU _ _ f0_20.eq_1) (@mU _ _ f0_21.eq_1)) (J (@mU _ _ f0_22.eq_1) (@mR _ _ f0_23.eq_1)))) (J (J (J (@mR _ _ f0_24.eq_1) (@mR _ _ f0_25.eq_1)) (J (@mU _ _ f0_26.eq_1) (@mU _ _ f0_27.eq_1))) (J (J (@mR _ _ f0_28.eq_1) (@mR _ _ f0_29.eq_1)) (J (@mU _ _ f0_30.eq_1) (@mU _ _ f0_31.eq_1)))))) (J (J (J (J (J (J (@mU _ _ f0_32.eq_1) (@mU _ _ f0_33.eq_1)) (@mR _ _ f0_34.eq_1)) (J (@mU _ _ f0_35.eq_1) (@mU _ _ f0_36.eq_1))) (J (J (@mU _ _ f0_37.eq_1) (@mU _ _ f0_38.eq_1)) (J (@mU _ _ f0_39.eq_1) (@mR _ _ f0_40.eq_1)))) (J (J (J (@mU _ _ f0_41.eq_1) (@mU _ _ f0_42.eq_1)) (J (@mU _ _ f0_43.eq_1) (@mU _ _ f0_44.eq_1))) (J (J (@mU _ _ f0_45.eq_1) (@mU _ _ f0_46.eq_1)) (J (@mU _ _ f0_47.eq_1) @f0l0.eq_1)))) (J (J (J (J @f0l1.eq_1 @f0l2.eq_1) (J @f0l3.eq_1 @f0l7.eq_1)) (J (J @f0l8.eq_1 @f0l11.eq_1) (J @f0l12.eq_1 @f0l13.eq_1))) (J (J (J @f0l17.eq_1 @f0l23.eq_1) (J @f0l24.eq_1 @f0l25.eq_1)) (J (J @f0l28.eq_1 @f0l29.eq_1) (J @f0l34.eq_1 @f0l40.eq_1))))))

end Go.Proofs.YtdgpiobmncohjaaGreat.Aw
