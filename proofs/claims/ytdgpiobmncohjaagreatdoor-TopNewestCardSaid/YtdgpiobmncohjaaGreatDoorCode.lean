/-
  The functions of the seat, translated to abstract code. Written by a program (wip/Gen2.lean).
-/
import Derived.Test.YtdgpiobmncohjaaGreatDoorAwBun
import Derived.Test.YtdgpiobmncohjaaGreatDoorProg
set_option maxRecDepth 100000
set_option linter.all false
namespace Go.Proofs.YtdgpiobmncohjaaGreatDoor.Aw
open Go.RowKit
theorem J {a b : Prop} (x : a) (y : b) : a ∧ b := ⟨x, y⟩
def oD (d : Nat) (x : AO) : AOp := ⟨some d, x, none, none, [], none⟩
def oN (x : AO) : AOp := ⟨none, x, none, none, [], none⟩
def oG (d : Nat) (x : AO) (g : Nat) (b : Bool) : AOp := ⟨some d, x, some (g, b), none, [], none⟩
theorem oD_eq {d x} : oD d x = ⟨some d, x, none, none, [], none⟩ := nr rfl
theorem oN_eq {x} : oN x = ⟨none, x, none, none, [], none⟩ := nr rfl
theorem oG_eq {d x g b} : oG d x g b = ⟨some d, x, some (g, b), none, [], none⟩ := nr rfl
theorem oA : (∀ d x, oD d x = ⟨some d, x, none, none, [], none⟩) ∧ (∀ x, oN x = ⟨none, x, none, none, [], none⟩) ∧ ∀ d x g b, oG d x g b = ⟨some d, x, some (g, b), none, [], none⟩ := ⟨fun _ _ => oD_eq, fun _ => oN_eq, fun _ _ _ _ => oG_eq⟩
/- scoria/page.Read -/
def a0l0 : List AOp := [oD 2 (.alloc [(.int .i64 0), (.int .i64 0), (.int .i64 0), (.int .i64 0), (.str [])]),
oD 3 (.mv (.k (.int .i64 0)))]
def a0_0 : AC := .reg a0l0
def a0l1 : List AOp := [oD 10 (.mv (.t 0)),
oD 11 (.call false 33 [(.t 10)]),
oD 9 (.mv (.t 11)),
oD 12 (.ext 0 (.t 9)),
oD 13 (.ext 1 (.t 9)),
oD 4 (.mv (.t 12)),
oD 5 (.mv (.t 13))]
def a0_1 : AC := .reg a0l1
def a0l2 : List AOp := [oD 14 (.mv (.t 5)),
oD 15 (.bin .neq (.t 14) (.k (.int .i64 0)))]
def a0_2 : AC := .reg a0l2
def a0l3 : List AOp := [oD 16 (.build [(.int .i64 0), (.int .i64 0), (.int .i64 0), (.int .i64 0), (.str [])] []),
oD 17 (.mv (.t 5)),
oN (.store 5 (.t 2) (.t 16)),
oD 3 (.mv (.t 17))]
def a0_3 : AC := .reg a0l3
def a0_4 : AC := .seq a0_3 .ret
def a0_5 : AC := .cond (.t 15) a0_4 .skip
def a0_6 : AC := .seq a0_2 a0_5
def a0l7 : List AOp := [oD 18 (.mv (.t 4)),
oD 19 (.lens (.t 18)),
oD 20 (.bin .lss (.t 19) (.k (.int .i64 16))),
oD 21 (.mv (.t 20)),
oG 22 (.mv (.t 4)) 21 false,
oG 23 (.sstr (.t 22) none (some (.k (.int .i64 2)))) 21 false,
oG 24 (.bin .neq (.t 23) (.k (.str [83, 99]))) 21 false,
oD 25 (.pick (.t 21) (.k (.bool true)) (.t 24))]
def a0_7 : AC := .reg a0l7
def a0l8 : List AOp := [oD 26 (.build [(.int .i64 0), (.int .i64 0), (.int .i64 0), (.int .i64 0), (.str [])] []),
oN (.store 5 (.t 2) (.t 26)),
oD 3 (.mv (.k (.int .i64 3)))]
def a0_8 : AC := .reg a0l8
def a0_9 : AC := .seq a0_8 .ret
def a0_10 : AC := .cond (.t 25) a0_9 .skip
def a0_11 : AC := .seq a0_7 a0_10
def a0l12 : List AOp := [oD 28 (.mv (.t 4)),
oD 29 (.sstr (.t 28) (some (.k (.int .i64 2))) none),
oD 30 (.call false 35 []),
oD 31 (.call false 34 [(.t 29), (.t 30)]),
oD 27 (.mv (.t 31)),
oD 32 (.ext 0 (.t 27)),
oD 33 (.ext 1 (.t 27)),
oD 34 (.ext 2 (.t 27)),
oD 6 (.mv (.t 32)),
oD 7 (.mv (.t 33)),
oD 5 (.mv (.t 34))]
def a0_12 : AC := .dreg 0 a0l12
def a0l13 : List AOp := [oD 35 (.mv (.t 5)),
oD 36 (.bin .neq (.t 35) (.k (.int .i64 0))),
oD 37 (.mv (.t 36)),
oG 38 (.mv (.t 7)) 37 false,
oG 39 (.lens (.t 38)) 37 false,
oG 40 (.conv .u64 (.t 39)) 37 false,
oG 41 (.mv (.t 6)) 37 false,
oG 42 (.isl 1 (.t 41) (.k (.int .i64 4))) 37 false,
oG 43 (.load none (.t 42)) 37 false,
oG 44 (.bin .neq (.t 40) (.t 43)) 37 false,
oD 45 (.pick (.t 37) (.k (.bool true)) (.t 44))]
def a0_13 : AC := .reg a0l13
def a0l14 : List AOp := [oD 46 (.build [(.int .i64 0), (.int .i64 0), (.int .i64 0), (.int .i64 0), (.str [])] []),
oN (.store 5 (.t 2) (.t 46)),
oD 3 (.mv (.k (.int .i64 3)))]
def a0_14 : AC := .reg a0l14
def a0_15 : AC := .seq a0_14 .ret
def a0_16 : AC := .cond (.t 45) a0_15 .skip
def a0_17 : AC := .seq a0_13 a0_16
def a0l18 : List AOp := [oD 47 (.mv (.t 6)),
  ⟨(some 48), .isl 1 (.t 47) (.k (.int .i64 0)), none, none, [0], none⟩,
  ⟨(some 49), .load none (.t 48), none, none, [0], none⟩,
oD 50 (.conv .i64 (.t 49)),
oD 51 (.mv (.t 6)),
  ⟨(some 52), .isl 1 (.t 51) (.k (.int .i64 1)), none, none, [0], none⟩,
  ⟨(some 53), .load none (.t 52), none, none, [0], none⟩,
oD 54 (.conv .i64 (.t 53)),
oD 55 (.mv (.t 6)),
  ⟨(some 56), .isl 1 (.t 55) (.k (.int .i64 2)), none, none, [0], none⟩,
  ⟨(some 57), .load none (.t 56), none, none, [0], none⟩,
oD 58 (.conv .i64 (.t 57)),
oD 59 (.mv (.t 6)),
  ⟨(some 60), .isl 1 (.t 59) (.k (.int .i64 3)), none, none, [0], none⟩,
  ⟨(some 61), .load none (.t 60), none, none, [0], none⟩,
oD 62 (.conv .i64 (.t 61)),
oD 63 (.mv (.t 7)),
oD 64 (.build [(.int .i64 0), (.int .i64 0), (.int .i64 0), (.int .i64 0), (.str [])] [(0, 1, (.t 50)), (1, 1, (.t 54)), (2, 1, (.t 58)), (3, 1, (.t 62)), (4, 1, (.t 63))]),
  ⟨(some 8), .alloc [(.int .i64 0), (.int .i64 0), (.int .i64 0), (.int .i64 0), (.str [])], none, (some 0), [], none⟩,
oN (.store 5 (.t 8) (.t 64))]
def a0_18 : AC := .dreg 1 a0l18
def a0l19 : List AOp := [oD 65 (.load (some 5) (.t 8)),
oD 66 (.call false 36 [(.t 65)]),
oD 67 (.un .not (.t 66))]
def a0_19 : AC := .reg a0l19
def a0l20 : List AOp := [oD 68 (.build [(.int .i64 0), (.int .i64 0), (.int .i64 0), (.int .i64 0), (.str [])] []),
oN (.store 5 (.t 2) (.t 68)),
oD 3 (.mv (.k (.int .i64 3)))]
def a0_20 : AC := .reg a0l20
def a0_21 : AC := .seq a0_20 .ret
def a0_22 : AC := .cond (.t 67) a0_21 .skip
def a0_23 : AC := .seq a0_19 a0_22
def a0l24 : List AOp := [oD 69 (.load (some 5) (.t 8)),
oN (.store 5 (.t 2) (.t 69)),
oD 3 (.mv (.k (.int .i64 0)))]
def a0_24 : AC := .reg a0l24
def a0_25 : AC := .seq a0_24 .ret
def a0_26 : AC := .seq a0_23 a0_25
def a0_27 : AC := .seq a0_18 a0_26
def a0_28 : AC := .seq a0_17 a0_27
def a0_29 : AC := .seq a0_12 a0_28
def a0_30 : AC := .seq a0_11 a0_29
def a0_31 : AC := .seq a0_6 a0_30
def a0_32 : AC := .seq a0_1 a0_31
def a0_33 : AC := .seq a0_0 a0_32
def ac_page_Read : AC := a0_33
theorem comp_page_Read : compF Tryz.prog [] (drawR Tryz.prog [] Tryz.f8.ntmps) [] 1 Tryz.f8 = some (ac_page_Read, [.c 2 (some 5), .t 3]) := by kernel_rfl
def U_page_Read := J oA (J (J (J (J (J (J @ac_page_Read.eq_1 (@mR _ _ a0_0.eq_1)) (@mR _ _ a0_1.eq_1)) (J (J (@mR _ _ a0_2.eq_1) (@mR _ _ a0_3.eq_1)) (@mU _ _ a0_4.eq_1))) (J (J (J (@mU _ _ a0_5.eq_1) (@mU _ _ a0_6.eq_1)) (@mR _ _ a0_7.eq_1)) (J (J (@mR _ _ a0_8.eq_1) (@mU _ _ a0_9.eq_1)) (@mU _ _ a0_10.eq_1)))) (J (J (J (J (@mU _ _ a0_11.eq_1) (@mD _ _ _ a0_12.eq_1)) (@mR _ _ a0_13.eq_1)) (J (J (@mR _ _ a0_14.eq_1) (@mU _ _ a0_15.eq_1)) (@mU _ _ a0_16.eq_1))) (J (J (J (@mU _ _ a0_17.eq_1) (@mD _ _ _ a0_18.eq_1)) (@mR _ _ a0_19.eq_1)) (J (J (@mR _ _ a0_20.eq_1) (@mU _ _ a0_21.eq_1)) (@mU _ _ a0_22.eq_1))))) (J (J (J (J (J (@mU _ _ a0_23.eq_1) (@mR _ _ a0_24.eq_1)) (@mU _ _ a0_25.eq_1)) (J (J (@mU _ _ a0_26.eq_1) (@mU _ _ a0_27.eq_1)) (@mU _ _ a0_28.eq_1))) (J (J (J (@mU _ _ a0_29.eq_1) (@mU _ _ a0_30.eq_1)) (@mU _ _ a0_31.eq_1)) (J (J (@mU _ _ a0_32.eq_1) (@mU _ _ a0_33.eq_1)) @a0l0.eq_1))) (J (J (J (J @a0l1.eq_1 @a0l2.eq_1) @a0l3.eq_1) (J (J @a0l7.eq_1 @a0l8.eq_1) @a0l12.eq_1)) (J (J (J @a0l13.eq_1 @a0l14.eq_1) @a0l18.eq_1) (J (J @a0l19.eq_1 @a0l20.eq_1) @a0l24.eq_1)))))

/- scoria/root.Write -/
def a1l0 : List AOp := [oD 4 (.mv (.k (.str []))),
oD 5 (.mv (.k (.int .i64 0)))]
def a1_0 : AC := .reg a1l0
def a1l1 : List AOp := [oD 11 (.mv (.t 0)),
oD 12 (.mv (.t 1)),
oD 13 (.call false 42 [(.t 11), (.t 12)]),
oD 14 (.un .not (.t 13))]
def a1_1 : AC := .reg a1l1
def a1l2 : List AOp := [oD 4 (.mv (.k (.str []))),
oD 5 (.mv (.k (.int .i64 1)))]
def a1_2 : AC := .reg a1l2
def a1_3 : AC := .seq a1_2 .ret
def a1_4 : AC := .cond (.t 14) a1_3 .skip
def a1_5 : AC := .seq a1_1 a1_4
def a1l6 : List AOp := [oD 16 (.mv (.t 0)),
oD 17 (.conv .u64 (.t 16)),
oD 18 (.mv (.t 1)),
oD 19 (.len (.t 18)),
oD 20 (.conv .u64 (.t 19)),
oD 21 (.blds false [(.int .u64 0)] 2 [(0, (.t 17)), (1, (.t 20))]),
oD 22 (.call false 44 []),
oD 23 (.call false 43 [(.t 21), (.t 22)]),
oD 15 (.mv (.t 23)),
oD 24 (.ext 0 (.t 15)),
oD 25 (.ext 1 (.t 15)),
oD 6 (.mv (.t 24)),
oD 7 (.mv (.t 25))]
def a1_6 : AC := .reg a1l6
def a1l7 : List AOp := [oD 26 (.mv (.t 1)),
oD 27 (.len (.t 26)),
oD 28 (.mv (.k (.int .i64 0)))]
def a1_7 : AC := .reg a1l7
def a1l8 : List AOp := [oD 29 (.bin .lss (.t 28) (.t 27))]
def a1_8 : AC := .reg a1l8
def a1_9 : AC := .cond (.t 29) .skip (.exit 0)
def a1l10 : List AOp := [oD 30 (.isl 4 (.t 26) (.t 28)),
oD 31 (.load (some 4) (.t 30)),
oD 9 (.alloc [(.int .i64 0), (.int .i64 0), (.int .i64 0), (.int .i64 0)]),
oN (.store 4 (.t 9) (.t 31))]
def a1_10 : AC := .reg a1l10
def a1l11 : List AOp := [oD 32 (.mv (.t 7)),
oD 33 (.bin .neq (.t 32) (.k (.int .i64 0)))]
def a1_11 : AC := .reg a1l11
def a1l12 : List AOp := [oD 34 (.mv (.t 7)),
oD 4 (.mv (.k (.str []))),
oD 5 (.mv (.t 34))]
def a1_12 : AC := .reg a1l12
def a1_13 : AC := .seq a1_12 .ret
def a1_14 : AC := .cond (.t 33) a1_13 .skip
def a1_15 : AC := .seq a1_11 a1_14
def a1l16 : List AOp := [oD 10 (.mv (.k (.str [])))]
def a1_16 : AC := .reg a1l16
def a1l17 : List AOp := [oD 36 (.faddr 0 (.t 9)),
oD 37 (.load none (.t 36)),
oD 38 (.conv .u64 (.t 37)),
oD 39 (.faddr 1 (.t 9)),
oD 40 (.load none (.t 39)),
oD 41 (.conv .u64 (.t 40)),
oD 42 (.faddr 2 (.t 9)),
oD 43 (.load none (.t 42)),
oD 44 (.mm true [(.t 43), (.k (.int .i64 0))]),
oD 45 (.conv .u64 (.t 44)),
oD 46 (.faddr 3 (.t 9)),
oD 47 (.load none (.t 46)),
oD 48 (.conv .u64 (.t 47)),
oD 49 (.blds false [(.int .u64 0)] 4 [(0, (.t 38)), (1, (.t 41)), (2, (.t 45)), (3, (.t 48))]),
oD 50 (.call false 45 []),
oD 51 (.call false 43 [(.t 49), (.t 50)]),
oD 35 (.mv (.t 51)),
oD 52 (.ext 0 (.t 35)),
oD 53 (.ext 1 (.t 35)),
oD 10 (.mv (.t 52)),
oD 7 (.mv (.t 53))]
def a1_17 : AC := .dreg 0 a1l17
def a1l18 : List AOp := [oD 54 (.mv (.t 6)),
oD 55 (.mv (.t 10)),
oD 56 (.bin .add (.t 54) (.t 55)),
oD 6 (.mv (.t 56))]
def a1_18 : AC := .reg a1l18
def a1_19 : AC := .seq a1_17 a1_18
def a1_20 : AC := .seq a1_16 a1_19
def a1_21 : AC := .seq a1_15 a1_20
def a1_22 : AC := .seq a1_10 a1_21
def a1_23 : AC := .block 1 a1_22
def a1l24 : List AOp := [oD 57 (.bin .add (.t 28) (.k (.int .i64 1))),
oD 28 (.mv (.t 57))]
def a1_24 : AC := .reg a1l24
def a1_25 : AC := .seq a1_23 a1_24
def a1_26 : AC := .seq a1_9 a1_25
def a1_27 : AC := .seq a1_8 a1_26
def a1_28 : AC := .loop [6, 7, 26, 27, 28] 0 a1_27
def a1_29 : AC := .block 0 a1_28
def a1_30 : AC := .seq a1_7 a1_29
def a1l31 : List AOp := [oD 58 (.mv (.t 6)),
oD 59 (.mv (.t 7)),
oD 4 (.mv (.t 58)),
oD 5 (.mv (.t 59))]
def a1_31 : AC := .reg a1l31
def a1_32 : AC := .seq a1_31 .ret
def a1_33 : AC := .seq a1_30 a1_32
def a1_34 : AC := .seq a1_6 a1_33
def a1_35 : AC := .seq a1_5 a1_34
def a1_36 : AC := .seq a1_0 a1_35
def ac_root_Write : AC := a1_36
theorem comp_root_Write : compF Tryz.prog [] (drawR Tryz.prog [] Tryz.f10.ntmps) [([6, 7, 26, 27, 28], 0)] 2 Tryz.f10 = some (ac_root_Write, [.t 4, .t 5]) := by kernel_rfl
def U_root_Write := J oA (J (J (J (J (J (J @ac_root_Write.eq_1 (@mR _ _ a1_0.eq_1)) (J (@mR _ _ a1_1.eq_1) (@mR _ _ a1_2.eq_1))) (J (J (@mU _ _ a1_3.eq_1) (@mU _ _ a1_4.eq_1)) (@mU _ _ a1_5.eq_1))) (J (J (J (@mR _ _ a1_6.eq_1) (@mR _ _ a1_7.eq_1)) (@mR _ _ a1_8.eq_1)) (J (J (@mU _ _ a1_9.eq_1) (@mR _ _ a1_10.eq_1)) (@mR _ _ a1_11.eq_1)))) (J (J (J (J (@mR _ _ a1_12.eq_1) (@mU _ _ a1_13.eq_1)) (J (@mU _ _ a1_14.eq_1) (@mU _ _ a1_15.eq_1))) (J (J (@mR _ _ a1_16.eq_1) (@mD _ _ _ a1_17.eq_1)) (@mR _ _ a1_18.eq_1))) (J (J (J (@mU _ _ a1_19.eq_1) (@mU _ _ a1_20.eq_1)) (@mU _ _ a1_21.eq_1)) (J (J (@mU _ _ a1_22.eq_1) (@mU _ _ a1_23.eq_1)) (@mR _ _ a1_24.eq_1))))) (J (J (J (J (J (@mU _ _ a1_25.eq_1) (@mU _ _ a1_26.eq_1)) (J (@mU _ _ a1_27.eq_1) (@mU _ _ a1_28.eq_1))) (J (J (@mU _ _ a1_29.eq_1) (@mU _ _ a1_30.eq_1)) (@mR _ _ a1_31.eq_1))) (J (J (J (@mU _ _ a1_32.eq_1) (@mU _ _ a1_33.eq_1)) (@mU _ _ a1_34.eq_1)) (J (J (@mU _ _ a1_35.eq_1) (@mU _ _ a1_36.eq_1)) @a1l0.eq_1))) (J (J (J (J @a1l1.eq_1 @a1l2.eq_1) (J @a1l6.eq_1 @a1l7.eq_1)) (J (J @a1l8.eq_1 @a1l10.eq_1) @a1l11.eq_1)) (J (J (J @a1l12.eq_1 @a1l16.eq_1) @a1l17.eq_1) (J (J @a1l18.eq_1 @a1l24.eq_1) @a1l31.eq_1)))))

/- scoria/root.Read -/
def a2l0 : List AOp := [oD 2 (.mv (.k (.int .i64 0))),
oD 3 (.mv (.k (.slc []))),
oD 4 (.mv (.k (.int .i64 0)))]
def a2_0 : AC := .reg a2l0
def a2l1 : List AOp := [oD 14 (.mv (.t 0)),
oD 15 (.call false 44 []),
oD 16 (.call false 34 [(.t 14), (.t 15)]),
oD 13 (.mv (.t 16)),
oD 17 (.ext 0 (.t 13)),
oD 18 (.ext 1 (.t 13)),
oD 19 (.ext 2 (.t 13)),
oD 5 (.mv (.t 17)),
oD 6 (.mv (.t 18)),
oD 4 (.mv (.t 19))]
def a2_1 : AC := .reg a2l1
def a2l2 : List AOp := [oD 20 (.mv (.t 4)),
oD 21 (.bin .neq (.t 20) (.k (.int .i64 0))),
oD 22 (.mv (.t 21)),
oG 23 (.mv (.t 5)) 22 false,
oG 24 (.isl 1 (.t 23) (.k (.int .i64 1))) 22 false,
oG 25 (.load none (.t 24)) 22 false,
oG 26 (.bin .gtr (.t 25) (.k (.int .u64 8))) 22 false,
oD 27 (.pick (.t 22) (.k (.bool true)) (.t 26))]
def a2_2 : AC := .reg a2l2
def a2l3 : List AOp := [oD 2 (.mv (.k (.int .i64 0))),
oD 3 (.mv (.k (.slc []))),
oD 4 (.mv (.k (.int .i64 3)))]
def a2_3 : AC := .reg a2l3
def a2_4 : AC := .seq a2_3 .ret
def a2_5 : AC := .cond (.t 27) a2_4 .skip
def a2_6 : AC := .seq a2_2 a2_5
def a2l7 : List AOp := [oD 7 (.nilown 4)]
def a2_7 : AC := .reg a2l7
def a2l8 : List AOp := [oD 28 (.mv (.t 5)),
oD 29 (.isl 1 (.t 28) (.k (.int .i64 1))),
oD 30 (.load none (.t 29)),
oD 31 (.mv (.k (.int .u64 0)))]
def a2_8 : AC := .reg a2l8
def a2l9 : List AOp := [oD 32 (.bin .lss (.t 31) (.t 30))]
def a2_9 : AC := .reg a2l9
def a2_10 : AC := .cond (.t 32) .skip (.exit 0)
def a2l11 : List AOp := [oD 34 (.mv (.t 6)),
oD 35 (.call false 45 []),
oD 36 (.call false 34 [(.t 34), (.t 35)]),
oD 33 (.mv (.t 36)),
oD 37 (.ext 0 (.t 33)),
oD 38 (.ext 1 (.t 33)),
oD 39 (.ext 2 (.t 33)),
oD 8 (.mv (.t 37)),
oD 9 (.mv (.t 38)),
oD 10 (.mv (.t 39))]
def a2_11 : AC := .reg a2l11
def a2l12 : List AOp := [oD 40 (.mv (.t 10)),
oD 41 (.bin .neq (.t 40) (.k (.int .i64 0)))]
def a2_12 : AC := .reg a2l12
def a2l13 : List AOp := [oD 2 (.mv (.k (.int .i64 0))),
oD 3 (.mv (.k (.slc []))),
oD 4 (.mv (.k (.int .i64 3)))]
def a2_13 : AC := .reg a2l13
def a2_14 : AC := .seq a2_13 .ret
def a2_15 : AC := .cond (.t 41) a2_14 .skip
def a2_16 : AC := .seq a2_12 a2_15
def a2l17 : List AOp := [oD 42 (.mv (.t 7)),
oD 43 (.mv (.t 8)),
  ⟨(some 44), .isl 1 (.t 43) (.k (.int .i64 0)), none, none, [0], none⟩,
  ⟨(some 45), .load none (.t 44), none, none, [0], none⟩,
oD 46 (.conv .i64 (.t 45)),
oD 47 (.mv (.t 8)),
  ⟨(some 48), .isl 1 (.t 47) (.k (.int .i64 1)), none, none, [0], none⟩,
  ⟨(some 49), .load none (.t 48), none, none, [0], none⟩,
oD 50 (.conv .i64 (.t 49)),
oD 51 (.mv (.t 8)),
  ⟨(some 52), .isl 1 (.t 51) (.k (.int .i64 2)), none, none, [0], none⟩,
  ⟨(some 53), .load none (.t 52), none, none, [0], none⟩,
oD 54 (.mv (.t 8)),
  ⟨(some 55), .isl 1 (.t 54) (.k (.int .i64 3)), none, none, [0], none⟩,
  ⟨(some 56), .load none (.t 55), none, none, [0], none⟩,
  ⟨(some 57), .call false 51 [(.t 53), (.t 56)], none, none, [0], none⟩,
oD 58 (.mv (.t 8)),
  ⟨(some 59), .isl 1 (.t 58) (.k (.int .i64 3)), none, none, [0], none⟩,
  ⟨(some 60), .load none (.t 59), none, none, [0], none⟩,
oD 61 (.conv .i64 (.t 60)),
oD 62 (.build [(.int .i64 0), (.int .i64 0), (.int .i64 0), (.int .i64 0)] [(0, 1, (.t 46)), (1, 1, (.t 50)), (2, 1, (.t 57)), (3, 1, (.t 61))]),
  ⟨(some 63), .blds false [(.int .i64 0), (.int .i64 0), (.int .i64 0), (.int .i64 0)] 1 [(0, (.t 62))], none, none, [0], none⟩,
  ⟨(some 64), .app 4 32 [(.int .i64 0), (.int .i64 0), (.int .i64 0), (.int .i64 0)] (.t 42) (.t 63), none, (some 0), [], none⟩,
oD 7 (.mv (.t 64))]
def a2_17 : AC := .dreg 1 a2l17
def a2l18 : List AOp := [oD 65 (.mv (.t 9)),
oD 6 (.mv (.t 65))]
def a2_18 : AC := .reg a2l18
def a2_19 : AC := .seq a2_17 a2_18
def a2_20 : AC := .seq a2_16 a2_19
def a2_21 : AC := .seq a2_11 a2_20
def a2_22 : AC := .block 1 a2_21
def a2l23 : List AOp := [oD 66 (.bin .add (.t 31) (.k (.int .u64 1))),
oD 31 (.mv (.t 66))]
def a2_23 : AC := .reg a2l23
def a2_24 : AC := .seq a2_22 a2_23
def a2_25 : AC := .seq a2_10 a2_24
def a2_26 : AC := .seq a2_9 a2_25
def a2_27 : AC := .loop [0, 5, 6, 7, 30, 31] 1 a2_26
def a2_28 : AC := .block 0 a2_27
def a2_29 : AC := .seq a2_8 a2_28
def a2l30 : List AOp := [oD 68 (.mv (.t 5)),
oD 69 (.isl 1 (.t 68) (.k (.int .i64 0))),
oD 70 (.load none (.t 69)),
oD 71 (.conv .i64 (.t 70)),
oD 72 (.mv (.t 7)),
oD 73 (.call false 10 [(.t 71), (.t 72)]),
oD 67 (.mv (.t 73)),
oD 74 (.ext 0 (.t 67)),
oD 75 (.ext 1 (.t 67)),
oD 11 (.mv (.t 74)),
oD 12 (.mv (.t 75))]
def a2_30 : AC := .reg a2l30
def a2l31 : List AOp := [oD 76 (.mv (.t 12)),
oD 77 (.bin .neq (.t 76) (.k (.int .i64 0))),
oD 78 (.mv (.t 77)),
oG 79 (.mv (.t 11)) 78 false,
oG 80 (.mv (.t 0)) 78 false,
oG 81 (.bin .neq (.t 79) (.t 80)) 78 false,
oD 82 (.pick (.t 78) (.k (.bool true)) (.t 81))]
def a2_31 : AC := .reg a2l31
def a2l32 : List AOp := [oD 2 (.mv (.k (.int .i64 0))),
oD 3 (.mv (.k (.slc []))),
oD 4 (.mv (.k (.int .i64 3)))]
def a2_32 : AC := .reg a2l32
def a2_33 : AC := .seq a2_32 .ret
def a2_34 : AC := .cond (.t 82) a2_33 .skip
def a2_35 : AC := .seq a2_31 a2_34
def a2_36 : AC := .seq a2_30 a2_35
def a2l37 : List AOp := [oD 83 (.mv (.t 5)),
oD 84 (.isl 1 (.t 83) (.k (.int .i64 0))),
oD 85 (.load none (.t 84)),
oD 86 (.conv .i64 (.t 85)),
oD 87 (.mv (.t 7)),
oD 2 (.mv (.t 86)),
oD 3 (.mv (.t 87)),
oD 4 (.mv (.k (.int .i64 0)))]
def a2_37 : AC := .reg a2l37
def a2_38 : AC := .seq a2_37 .ret
def a2_39 : AC := .seq a2_36 a2_38
def a2_40 : AC := .seq a2_29 a2_39
def a2_41 : AC := .seq a2_7 a2_40
def a2_42 : AC := .seq a2_6 a2_41
def a2_43 : AC := .seq a2_1 a2_42
def a2_44 : AC := .seq a2_0 a2_43
def ac_root_Read : AC := a2_44
theorem comp_root_Read : compF Tryz.prog [7] (drawR Tryz.prog [7] Tryz.f16.ntmps) [([0, 5, 6, 7, 30, 31], 1)] 1 Tryz.f16 = some (ac_root_Read, [.t 2, .t 3, .t 4]) := by kernel_rfl
def U_root_Read := J oA (J (J (J (J (J (J @ac_root_Read.eq_1 (@mR _ _ a2_0.eq_1)) (J (@mR _ _ a2_1.eq_1) (@mR _ _ a2_2.eq_1))) (J (J (@mR _ _ a2_3.eq_1) (@mU _ _ a2_4.eq_1)) (J (@mU _ _ a2_5.eq_1) (@mU _ _ a2_6.eq_1)))) (J (J (J (@mR _ _ a2_7.eq_1) (@mR _ _ a2_8.eq_1)) (J (@mR _ _ a2_9.eq_1) (@mU _ _ a2_10.eq_1))) (J (J (@mR _ _ a2_11.eq_1) (@mR _ _ a2_12.eq_1)) (J (@mR _ _ a2_13.eq_1) (@mU _ _ a2_14.eq_1))))) (J (J (J (J (@mU _ _ a2_15.eq_1) (@mU _ _ a2_16.eq_1)) (J (@mD _ _ _ a2_17.eq_1) (@mR _ _ a2_18.eq_1))) (J (J (@mU _ _ a2_19.eq_1) (@mU _ _ a2_20.eq_1)) (J (@mU _ _ a2_21.eq_1) (@mU _ _ a2_22.eq_1)))) (J (J (J (@mR _ _ a2_23.eq_1) (@mU _ _ a2_24.eq_1)) (J (@mU _ _ a2_25.eq_1) (@mU _ _ a2_26.eq_1))) (J (J (@mU _ _ a2_27.eq_1) (@mU _ _ a2_28.eq_1)) (J (@mU _ _ a2_29.eq_1) (@mR _ _ a2_30.eq_1)))))) (J (J (J (J (J (@mR _ _ a2_31.eq_1) (@mR _ _ a2_32.eq_1)) (J (@mU _ _ a2_33.eq_1) (@mU _ _ a2_34.eq_1))) (J (J (@mU _ _ a2_35.eq_1) (@mU _ _ a2_36.eq_1)) (J (@mR _ _ a2_37.eq_1) (@mU _ _ a2_38.eq_1)))) (J (J (J (@mU _ _ a2_39.eq_1) (@mU _ _ a2_40.eq_1)) (J (@mU _ _ a2_41.eq_1) (@mU _ _ a2_42.eq_1))) (J (J (@mU _ _ a2_43.eq_1) (@mU _ _ a2_44.eq_1)) (J @a2l0.eq_1 @a2l1.eq_1)))) (J (J (J (J @a2l2.eq_1 @a2l3.eq_1) (J @a2l7.eq_1 @a2l8.eq_1)) (J (J @a2l9.eq_1 @a2l11.eq_1) (J @a2l12.eq_1 @a2l13.eq_1))) (J (J (J @a2l17.eq_1 @a2l18.eq_1) (J @a2l23.eq_1 @a2l30.eq_1)) (J (J @a2l31.eq_1 @a2l32.eq_1) @a2l37.eq_1)))))

/- scoria/page.Write -/
def a3l0 : List AOp := [oD 1 (.box (.t 0)),
oD 2 (.mv (.k (.str []))),
oD 3 (.mv (.k (.int .i64 0)))]
def a3_0 : AC := .reg a3l0
def a3l1 : List AOp := [oD 6 (.load (some 5) (.t 1)),
oD 7 (.call false 36 [(.t 6)]),
oD 8 (.un .not (.t 7))]
def a3_1 : AC := .reg a3l1
def a3l2 : List AOp := [oD 2 (.mv (.k (.str []))),
oD 3 (.mv (.k (.int .i64 1)))]
def a3_2 : AC := .reg a3l2
def a3_3 : AC := .seq a3_2 .ret
def a3_4 : AC := .cond (.t 8) a3_3 .skip
def a3_5 : AC := .seq a3_1 a3_4
def a3l6 : List AOp := [oD 10 (.faddr 0 (.t 1)),
oD 11 (.load none (.t 10)),
oD 12 (.conv .u64 (.t 11)),
oD 13 (.faddr 1 (.t 1)),
oD 14 (.load none (.t 13)),
oD 15 (.conv .u64 (.t 14)),
oD 16 (.faddr 2 (.t 1)),
oD 17 (.load none (.t 16)),
oD 18 (.conv .u64 (.t 17)),
oD 19 (.faddr 3 (.t 1)),
oD 20 (.load none (.t 19)),
oD 21 (.conv .u64 (.t 20)),
oD 22 (.faddr 4 (.t 1)),
oD 23 (.load none (.t 22)),
oD 24 (.lens (.t 23)),
oD 25 (.conv .u64 (.t 24)),
oD 26 (.blds false [(.int .u64 0)] 5 [(0, (.t 12)), (1, (.t 15)), (2, (.t 18)), (3, (.t 21)), (4, (.t 25))]),
oD 27 (.call false 35 []),
oD 28 (.call false 43 [(.t 26), (.t 27)]),
oD 9 (.mv (.t 28)),
oD 29 (.ext 0 (.t 9)),
oD 30 (.ext 1 (.t 9)),
oD 4 (.mv (.t 29)),
oD 5 (.mv (.t 30))]
def a3_6 : AC := .dreg 0 a3l6
def a3l7 : List AOp := [oD 31 (.mv (.t 5)),
oD 32 (.bin .neq (.t 31) (.k (.int .i64 0)))]
def a3_7 : AC := .reg a3l7
def a3l8 : List AOp := [oD 33 (.mv (.t 5)),
oD 2 (.mv (.k (.str []))),
oD 3 (.mv (.t 33))]
def a3_8 : AC := .reg a3l8
def a3_9 : AC := .seq a3_8 .ret
def a3_10 : AC := .cond (.t 32) a3_9 .skip
def a3_11 : AC := .seq a3_7 a3_10
def a3l12 : List AOp := [oD 34 (.mv (.t 4)),
oD 35 (.bin .add (.k (.str [83, 99])) (.t 34)),
oD 36 (.faddr 4 (.t 1)),
oD 37 (.load none (.t 36)),
oD 38 (.bin .add (.t 35) (.t 37)),
oD 39 (.call false 65 [(.t 38)]),
oD 2 (.mv (.t 39)),
oD 3 (.mv (.k (.int .i64 0)))]
def a3_12 : AC := .reg a3l12
def a3_13 : AC := .seq a3_12 .ret
def a3_14 : AC := .seq a3_11 a3_13
def a3_15 : AC := .seq a3_6 a3_14
def a3_16 : AC := .seq a3_5 a3_15
def a3_17 : AC := .seq a3_0 a3_16
def ac_page_Write : AC := a3_17
theorem comp_page_Write : compF Tryz.prog [] (drawR Tryz.prog [] Tryz.f30.ntmps) [] 1 Tryz.f30 = some (ac_page_Write, [.t 2, .t 3]) := by kernel_rfl
def U_page_Write := J oA (J (J (J (J (J @ac_page_Write.eq_1 (@mR _ _ a3_0.eq_1)) (J (@mR _ _ a3_1.eq_1) (@mR _ _ a3_2.eq_1))) (J (J (@mU _ _ a3_3.eq_1) (@mU _ _ a3_4.eq_1)) (@mU _ _ a3_5.eq_1))) (J (J (J (@mD _ _ _ a3_6.eq_1) (@mR _ _ a3_7.eq_1)) (@mR _ _ a3_8.eq_1)) (J (J (@mU _ _ a3_9.eq_1) (@mU _ _ a3_10.eq_1)) (@mU _ _ a3_11.eq_1)))) (J (J (J (J (@mR _ _ a3_12.eq_1) (@mU _ _ a3_13.eq_1)) (J (@mU _ _ a3_14.eq_1) (@mU _ _ a3_15.eq_1))) (J (J (@mU _ _ a3_16.eq_1) (@mU _ _ a3_17.eq_1)) @a3l0.eq_1)) (J (J (J @a3l1.eq_1 @a3l2.eq_1) @a3l6.eq_1) (J (J @a3l7.eq_1 @a3l8.eq_1) @a3l12.eq_1))))

/- scoria/check.Open -/
def a4l0 : List AOp := [oD 2 (.mv (.k (.str []))),
oD 3 (.mv (.k (.int .i64 0)))]
def a4_0 : AC := .reg a4l0
def a4l1 : List AOp := [oD 5 (.mv (.t 0)),
oD 6 (.lens (.t 5)),
oD 7 (.bin .sub (.t 6) (.k (.int .i64 4))),
oD 4 (.mv (.t 7))]
def a4_1 : AC := .reg a4l1
def a4l2 : List AOp := [oD 9 (.mv (.t 4)),
oD 10 (.bin .lss (.t 9) (.k (.int .i64 0))),
oD 8 (.mv (.t 10))]
def a4_2 : AC := .reg a4l2
def a4l3 : List AOp := [oD 2 (.mv (.k (.str []))),
oD 3 (.mv (.k (.int .i64 5)))]
def a4_3 : AC := .reg a4l3
def a4_4 : AC := .seq a4_3 .ret
def a4l5 : List AOp := [oD 12 (.mv (.t 0)),
oD 13 (.mv (.t 4)),
oD 14 (.sstr (.t 12) none (some (.t 13))),
oD 15 (.call false 65 [(.t 14)]),
oD 16 (.mv (.t 0)),
oD 17 (.bin .neq (.t 15) (.t 16)),
oD 11 (.mv (.t 17))]
def a4_5 : AC := .reg a4l5
def a4l6 : List AOp := [oD 2 (.mv (.k (.str []))),
oD 3 (.mv (.k (.int .i64 6)))]
def a4_6 : AC := .reg a4l6
def a4_7 : AC := .seq a4_6 .ret
def a4_8 : AC := .cond (.t 11) a4_7 .skip
def a4_9 : AC := .seq a4_5 a4_8
def a4_10 : AC := .cond (.t 8) a4_4 a4_9
def a4_11 : AC := .seq a4_2 a4_10
def a4_12 : AC := .block 0 a4_11
def a4l13 : List AOp := [oD 18 (.mv (.t 0)),
oD 19 (.mv (.t 4)),
oD 20 (.sstr (.t 18) none (some (.t 19))),
oD 2 (.mv (.t 20)),
oD 3 (.mv (.k (.int .i64 0)))]
def a4_13 : AC := .reg a4l13
def a4_14 : AC := .seq a4_13 .ret
def a4_15 : AC := .seq a4_12 a4_14
def a4_16 : AC := .seq a4_1 a4_15
def a4_17 : AC := .seq a4_0 a4_16
def ac_check_Open : AC := a4_17
theorem comp_check_Open : compF Tryz.prog [] (drawR Tryz.prog [] Tryz.f33.ntmps) [] 1 Tryz.f33 = some (ac_check_Open, [.t 2, .t 3]) := by kernel_rfl
def U_check_Open := J oA (J (J (J (J (J @ac_check_Open.eq_1 (@mR _ _ a4_0.eq_1)) (J (@mR _ _ a4_1.eq_1) (@mR _ _ a4_2.eq_1))) (J (J (@mR _ _ a4_3.eq_1) (@mU _ _ a4_4.eq_1)) (@mR _ _ a4_5.eq_1))) (J (J (J (@mR _ _ a4_6.eq_1) (@mU _ _ a4_7.eq_1)) (@mU _ _ a4_8.eq_1)) (J (J (@mU _ _ a4_9.eq_1) (@mU _ _ a4_10.eq_1)) (@mU _ _ a4_11.eq_1)))) (J (J (J (J (@mU _ _ a4_12.eq_1) (@mR _ _ a4_13.eq_1)) (J (@mU _ _ a4_14.eq_1) (@mU _ _ a4_15.eq_1))) (J (J (@mU _ _ a4_16.eq_1) (@mU _ _ a4_17.eq_1)) @a4l0.eq_1)) (J (J (J @a4l1.eq_1 @a4l2.eq_1) @a4l3.eq_1) (J (J @a4l5.eq_1 @a4l6.eq_1) @a4l13.eq_1))))

/- scoria/field.Take -/
def a5l0 : List AOp := [oD 4 (.nilown 1),
oD 5 (.mv (.k (.str []))),
oD 6 (.mv (.k (.int .i64 0)))]
def a5_0 : AC := .reg a5l0
def a5l1 : List AOp := [oD 12 (.mv (.t 1)),
oD 13 (.call false 68 [(.t 12), (.k (.fn (.func 69) [] []))])]
def a5_1 : AC := .reg a5l1
def a5l2 : List AOp := [oD 4 (.nilown 1),
oD 5 (.mv (.k (.str []))),
oD 6 (.mv (.k (.int .i64 1)))]
def a5_2 : AC := .reg a5l2
def a5_3 : AC := .seq a5_2 .ret
def a5_4 : AC := .cond (.t 13) a5_3 .skip
def a5_5 : AC := .seq a5_1 a5_4
def a5l6 : List AOp := [oD 7 (.mv (.k (.int .i64 0)))]
def a5_6 : AC := .reg a5l6
def a5l7 : List AOp := [oD 14 (.mv (.t 1)),
oD 15 (.len (.t 14)),
oD 16 (.mv (.k (.int .i64 0)))]
def a5_7 : AC := .reg a5l7
def a5l8 : List AOp := [oD 17 (.bin .lss (.t 16) (.t 15))]
def a5_8 : AC := .reg a5l8
def a5_9 : AC := .cond (.t 17) .skip (.exit 0)
def a5l10 : List AOp := [oD 18 (.isl 1 (.t 14) (.t 16)),
oD 19 (.load none (.t 18)),
oD 9 (.mv (.t 19))]
def a5_10 : AC := .reg a5l10
def a5l11 : List AOp := [oD 21 (.mv (.t 0)),
oD 22 (.mv (.t 7)),
oD 23 (.mv (.t 9)),
oD 24 (.call false 70 [(.t 21), (.t 22), (.t 23)]),
oD 20 (.mv (.t 24)),
oD 25 (.ext 0 (.t 20)),
oD 26 (.ext 1 (.t 20)),
oD 10 (.mv (.t 25)),
oD 11 (.mv (.t 26))]
def a5_11 : AC := .reg a5l11
def a5l12 : List AOp := [oD 27 (.mv (.t 11)),
oD 28 (.bin .neq (.t 27) (.k (.int .i64 0)))]
def a5_12 : AC := .reg a5l12
def a5l13 : List AOp := [oD 29 (.mv (.t 11)),
oD 4 (.nilown 1),
oD 5 (.mv (.k (.str []))),
oD 6 (.mv (.t 29))]
def a5_13 : AC := .reg a5l13
def a5_14 : AC := .seq a5_13 .ret
def a5_15 : AC := .cond (.t 28) a5_14 .skip
def a5_16 : AC := .seq a5_12 a5_15
def a5l17 : List AOp := [oD 30 (.mv (.t 4)),
oD 31 (.mv (.t 10)),
oD 32 (.blds false [(.int .u64 0)] 1 [(0, (.t 31))]),
oD 33 (.app 1 8 [(.int .u64 0)] (.t 30) (.t 32)),
oD 4 (.mv (.t 33))]
def a5_17 : AC := .reg a5l17
def a5l18 : List AOp := [oD 34 (.mv (.t 7)),
oD 35 (.mv (.t 9)),
oD 36 (.bin .add (.t 34) (.t 35)),
oD 7 (.mv (.t 36))]
def a5_18 : AC := .reg a5l18
def a5_19 : AC := .seq a5_17 a5_18
def a5_20 : AC := .seq a5_16 a5_19
def a5_21 : AC := .seq a5_11 a5_20
def a5_22 : AC := .seq a5_10 a5_21
def a5_23 : AC := .block 1 a5_22
def a5l24 : List AOp := [oD 37 (.bin .add (.t 16) (.k (.int .i64 1))),
oD 16 (.mv (.t 37))]
def a5_24 : AC := .reg a5l24
def a5_25 : AC := .seq a5_23 a5_24
def a5_26 : AC := .seq a5_9 a5_25
def a5_27 : AC := .seq a5_8 a5_26
def a5_28 : AC := .loop [0, 4, 7, 14, 15, 16] 1 a5_27
def a5_29 : AC := .block 0 a5_28
def a5_30 : AC := .seq a5_7 a5_29
def a5l31 : List AOp := [oD 38 (.mv (.t 4)),
oD 39 (.mv (.t 0)),
oD 40 (.mv (.t 7)),
oD 41 (.sstr (.t 39) (some (.t 40)) none),
oD 4 (.mv (.t 38)),
oD 5 (.mv (.t 41)),
oD 6 (.mv (.k (.int .i64 0)))]
def a5_31 : AC := .dreg 0 a5l31
def a5_32 : AC := .seq a5_31 .ret
def a5_33 : AC := .seq a5_30 a5_32
def a5_34 : AC := .seq a5_6 a5_33
def a5_35 : AC := .seq a5_5 a5_34
def a5_36 : AC := .seq a5_0 a5_35
def ac_field_Take : AC := a5_36
theorem comp_field_Take : compF Tryz.prog [4] (drawR Tryz.prog [4] Tryz.f34.ntmps) [([0, 4, 7, 14, 15, 16], 1)] 2 Tryz.f34 = some (ac_field_Take, [.t 4, .t 5, .t 6]) := by kernel_rfl
def U_field_Take := J oA (J (J (J (J (J (J @ac_field_Take.eq_1 (@mR _ _ a5_0.eq_1)) (J (@mR _ _ a5_1.eq_1) (@mR _ _ a5_2.eq_1))) (J (J (@mU _ _ a5_3.eq_1) (@mU _ _ a5_4.eq_1)) (@mU _ _ a5_5.eq_1))) (J (J (J (@mR _ _ a5_6.eq_1) (@mR _ _ a5_7.eq_1)) (@mR _ _ a5_8.eq_1)) (J (J (@mU _ _ a5_9.eq_1) (@mR _ _ a5_10.eq_1)) (@mR _ _ a5_11.eq_1)))) (J (J (J (J (@mR _ _ a5_12.eq_1) (@mR _ _ a5_13.eq_1)) (J (@mU _ _ a5_14.eq_1) (@mU _ _ a5_15.eq_1))) (J (J (@mU _ _ a5_16.eq_1) (@mR _ _ a5_17.eq_1)) (@mR _ _ a5_18.eq_1))) (J (J (J (@mU _ _ a5_19.eq_1) (@mU _ _ a5_20.eq_1)) (@mU _ _ a5_21.eq_1)) (J (J (@mU _ _ a5_22.eq_1) (@mU _ _ a5_23.eq_1)) (@mR _ _ a5_24.eq_1))))) (J (J (J (J (J (@mU _ _ a5_25.eq_1) (@mU _ _ a5_26.eq_1)) (J (@mU _ _ a5_27.eq_1) (@mU _ _ a5_28.eq_1))) (J (J (@mU _ _ a5_29.eq_1) (@mU _ _ a5_30.eq_1)) (@mD _ _ _ a5_31.eq_1))) (J (J (J (@mU _ _ a5_32.eq_1) (@mU _ _ a5_33.eq_1)) (@mU _ _ a5_34.eq_1)) (J (J (@mU _ _ a5_35.eq_1) (@mU _ _ a5_36.eq_1)) @a5l0.eq_1))) (J (J (J (J @a5l1.eq_1 @a5l2.eq_1) (J @a5l6.eq_1 @a5l7.eq_1)) (J (J @a5l8.eq_1 @a5l10.eq_1) @a5l11.eq_1)) (J (J (J @a5l12.eq_1 @a5l13.eq_1) @a5l17.eq_1) (J (J @a5l18.eq_1 @a5l24.eq_1) @a5l31.eq_1)))))

/- scoria/page.widths -/
def a6l0 : List AOp := [oD 0 (.mv (.k (.slc [])))]
def a6_0 : AC := .reg a6l0
def a6l1 : List AOp := [oD 1 (.blds false [(.int .i64 0)] 5 [(0, (.k (.int .i64 1))), (1, (.k (.int .i64 2))), (2, (.k (.int .i64 4))), (3, (.k (.int .i64 6))), (4, (.k (.int .i64 1)))]),
oD 0 (.mv (.t 1))]
def a6_1 : AC := .reg a6l1
def a6_2 : AC := .seq a6_1 .ret
def a6_3 : AC := .seq a6_0 a6_2
def ac_page_widths : AC := a6_3
theorem comp_page_widths : compF Tryz.prog [] (drawR Tryz.prog [] Tryz.f35.ntmps) [] 0 Tryz.f35 = some (ac_page_widths, [.t 0]) := by kernel_rfl
def U_page_widths := J oA (J (J (J @ac_page_widths.eq_1 (@mR _ _ a6_0.eq_1)) (J (@mR _ _ a6_1.eq_1) (@mU _ _ a6_2.eq_1))) (J (J (@mU _ _ a6_3.eq_1) @a6l0.eq_1) @a6l1.eq_1))

/- scoria/page.may -/
def a7l0 : List AOp := [oD 1 (.box (.t 0)),
oD 2 (.mv (.k (.bool false)))]
def a7_0 : AC := .reg a7l0
def a7l1 : List AOp := [oD 3 (.faddr 0 (.t 1)),
oD 4 (.load none (.t 3)),
oD 5 (.bin .geq (.t 4) (.k (.int .i64 1))),
oD 6 (.mv (.t 5)),
oG 7 (.faddr 0 (.t 1)) 6 true,
oG 8 (.load none (.t 7)) 6 true,
oG 9 (.bin .leq (.t 8) (.k (.int .i64 4))) 6 true,
oD 10 (.pick (.t 6) (.t 9) (.k (.bool false))),
oD 11 (.mv (.t 10)),
oG 12 (.faddr 1 (.t 1)) 11 true,
oG 13 (.load none (.t 12)) 11 true,
oG 14 (.call false 71 [(.t 13), (.k (.int .i64 65535))]) 11 true,
oD 15 (.pick (.t 11) (.t 14) (.k (.bool false))),
oD 16 (.mv (.t 15)),
oG 17 (.faddr 2 (.t 1)) 16 true,
oG 18 (.load none (.t 17)) 16 true,
oG 19 (.call false 71 [(.t 18), (.k (.int .i64 4294967295))]) 16 true,
oD 20 (.pick (.t 16) (.t 19) (.k (.bool false))),
oD 21 (.mv (.t 20)),
oG 22 (.faddr 3 (.t 1)) 21 true,
oG 23 (.load none (.t 22)) 21 true,
oG 24 (.call false 71 [(.t 23), (.k (.int .i64 281474976710655))]) 21 true,
oD 25 (.pick (.t 21) (.t 24) (.k (.bool false))),
oD 26 (.mv (.t 25)),
oG 27 (.faddr 4 (.t 1)) 26 true,
oG 28 (.load none (.t 27)) 26 true,
oG 29 (.lens (.t 28)) 26 true,
oG 30 (.bin .leq (.t 29) (.k (.int .i64 100))) 26 true,
oD 31 (.pick (.t 26) (.t 30) (.k (.bool false))),
oD 2 (.mv (.t 31))]
def a7_1 : AC := .reg a7l1
def a7_2 : AC := .seq a7_1 .ret
def a7_3 : AC := .seq a7_0 a7_2
def ac_page_may : AC := a7_3
theorem comp_page_may : compF Tryz.prog [] (drawR Tryz.prog [] Tryz.f36.ntmps) [] 1 Tryz.f36 = some (ac_page_may, [.t 2]) := by kernel_rfl
def U_page_may := J oA (J (J (J @ac_page_may.eq_1 (@mR _ _ a7_0.eq_1)) (J (@mR _ _ a7_1.eq_1) (@mU _ _ a7_2.eq_1))) (J (J (@mU _ _ a7_3.eq_1) @a7l0.eq_1) @a7l1.eq_1))

/- scoria/geom.Plan -/
def a8l0 : List AOp := [oD 1 (.box (.t 0)),
oD 2 (.alloc [(.int .i64 0), (.int .i64 0), (.int .i64 0), (.int .i64 0), (.int .i64 0)]),
oD 3 (.mv (.k (.int .i64 0)))]
def a8_0 : AC := .reg a8l0
def a8l1 : List AOp := [oD 6 (.load (some 2) (.t 1)),
oD 7 (.call false 72 [(.t 6)]),
oD 4 (.mv (.t 7))]
def a8_1 : AC := .reg a8l1
def a8l2 : List AOp := [oD 8 (.mv (.t 4)),
oD 9 (.bin .neq (.t 8) (.k (.int .i64 0)))]
def a8_2 : AC := .reg a8l2
def a8l3 : List AOp := [oD 10 (.build [(.int .i64 0), (.int .i64 0), (.int .i64 0), (.int .i64 0), (.int .i64 0)] []),
oD 11 (.mv (.t 4)),
oN (.store 5 (.t 2) (.t 10)),
oD 3 (.mv (.t 11))]
def a8_3 : AC := .reg a8l3
def a8_4 : AC := .seq a8_3 .ret
def a8_5 : AC := .cond (.t 9) a8_4 .skip
def a8_6 : AC := .seq a8_2 a8_5
def a8_7 : AC := .seq a8_1 a8_6
def a8l8 : List AOp := [oD 12 (.load (some 2) (.t 1)),
oD 13 (.call false 73 [(.t 12)]),
oD 5 (.alloc [(.int .i64 0), (.int .i64 0), (.int .i64 0), (.int .i64 0), (.int .i64 0)]),
oN (.store 5 (.t 5) (.t 13))]
def a8_8 : AC := .reg a8l8
def a8l9 : List AOp := [oD 14 (.iarr 1 5 (.t 5) (.k (.int .i64 0))),
oD 15 (.load none (.t 14)),
oD 16 (.iarr 1 5 (.t 5) (.k (.int .i64 1))),
oD 17 (.load none (.t 16)),
oD 18 (.iarr 1 5 (.t 5) (.k (.int .i64 2))),
oD 19 (.load none (.t 18)),
oD 20 (.iarr 1 5 (.t 5) (.k (.int .i64 4))),
oD 21 (.load none (.t 20)),
oD 22 (.iarr 1 5 (.t 5) (.k (.int .i64 4))),
oD 23 (.load none (.t 22)),
oD 24 (.bin .add (.t 23) (.k (.int .i64 1))),
oD 25 (.build [(.int .i64 0), (.int .i64 0), (.int .i64 0), (.int .i64 0), (.int .i64 0)] [(0, 1, (.t 15)), (1, 1, (.t 17)), (2, 1, (.t 19)), (3, 1, (.t 21)), (4, 1, (.t 24))]),
oN (.store 5 (.t 2) (.t 25)),
oD 3 (.mv (.k (.int .i64 0)))]
def a8_9 : AC := .reg a8l9
def a8_10 : AC := .seq a8_9 .ret
def a8_11 : AC := .seq a8_8 a8_10
def a8_12 : AC := .seq a8_7 a8_11
def a8_13 : AC := .seq a8_0 a8_12
def ac_geom_Plan : AC := a8_13
theorem comp_geom_Plan : compF Tryz.prog [] (drawR Tryz.prog [] Tryz.f39.ntmps) [] 1 Tryz.f39 = some (ac_geom_Plan, [.c 2 (some 5), .t 3]) := by kernel_rfl
def U_geom_Plan := J oA (J (J (J (J (J @ac_geom_Plan.eq_1 (@mR _ _ a8_0.eq_1)) (@mR _ _ a8_1.eq_1)) (J (J (@mR _ _ a8_2.eq_1) (@mR _ _ a8_3.eq_1)) (@mU _ _ a8_4.eq_1))) (J (J (J (@mU _ _ a8_5.eq_1) (@mU _ _ a8_6.eq_1)) (@mU _ _ a8_7.eq_1)) (J (@mR _ _ a8_8.eq_1) (@mR _ _ a8_9.eq_1)))) (J (J (J (J (@mU _ _ a8_10.eq_1) (@mU _ _ a8_11.eq_1)) (@mU _ _ a8_12.eq_1)) (J (@mU _ _ a8_13.eq_1) @a8l0.eq_1)) (J (J (J @a8l1.eq_1 @a8l2.eq_1) @a8l3.eq_1) (J @a8l8.eq_1 @a8l9.eq_1))))

/- scoria/root.may -/
def a9l0 : List AOp := [oD 4 (.mv (.k (.bool false)))]
def a9_0 : AC := .reg a9l0
def a9l1 : List AOp := [oD 7 (.mv (.t 0)),
oD 8 (.call false 77 [(.t 7), (.k (.int .i64 0)), (.k (.int .i64 1099511627775))]),
oD 9 (.un .not (.t 8)),
oD 10 (.mv (.t 9)),
oG 11 (.mv (.t 1)) 10 false,
oG 12 (.len (.t 11)) 10 false,
oG 13 (.bin .gtr (.t 12) (.k (.int .i64 8))) 10 false,
oD 14 (.pick (.t 10) (.k (.bool true)) (.t 13))]
def a9_1 : AC := .reg a9l1
def a9l2 : List AOp := [oD 4 (.mv (.k (.bool false)))]
def a9_2 : AC := .reg a9l2
def a9_3 : AC := .seq a9_2 .ret
def a9_4 : AC := .cond (.t 14) a9_3 .skip
def a9_5 : AC := .seq a9_1 a9_4
def a9l6 : List AOp := [oD 15 (.mv (.t 1)),
oD 16 (.len (.t 15)),
oD 17 (.mv (.k (.int .i64 0)))]
def a9_6 : AC := .reg a9l6
def a9l7 : List AOp := [oD 18 (.bin .lss (.t 17) (.t 16))]
def a9_7 : AC := .reg a9l7
def a9_8 : AC := .cond (.t 18) .skip (.exit 0)
def a9l9 : List AOp := [oD 19 (.mv (.t 17)),
oD 20 (.isl 4 (.t 15) (.t 17)),
oD 21 (.load (some 4) (.t 20)),
oD 6 (.alloc [(.int .i64 0), (.int .i64 0), (.int .i64 0), (.int .i64 0)]),
oD 5 (.mv (.t 19)),
oN (.store 4 (.t 6) (.t 21))]
def a9_9 : AC := .reg a9l9
def a9l10 : List AOp := [oD 22 (.load (some 4) (.t 6)),
oD 23 (.call false 78 [(.t 22)]),
oD 24 (.un .not (.t 23)),
oD 25 (.mv (.t 24)),
oG 26 (.mv (.t 5)) 25 false,
oG 27 (.bin .gtr (.t 26) (.k (.int .i64 0))) 25 false,
oG 28 (.mv (.t 27)) 25 false,
oG 29 (.mv (.t 1)) 28 true,
oG 30 (.mv (.t 5)) 28 true,
oG 31 (.bin .sub (.t 30) (.k (.int .i64 1))) 28 true,
oG 32 (.isl 4 (.t 29) (.t 31)) 28 true,
oG 33 (.faddr 0 (.t 32)) 28 true,
oG 34 (.load none (.t 33)) 28 true,
oG 35 (.faddr 0 (.t 6)) 28 true,
oG 36 (.load none (.t 35)) 28 true,
oG 37 (.bin .geq (.t 34) (.t 36)) 28 true,
oG 38 (.pick (.t 28) (.t 37) (.k (.bool false))) 25 false,
oD 39 (.pick (.t 25) (.k (.bool true)) (.t 38))]
def a9_10 : AC := .dreg 0 a9l10
def a9l11 : List AOp := [oD 4 (.mv (.k (.bool false)))]
def a9_11 : AC := .reg a9l11
def a9_12 : AC := .seq a9_11 .ret
def a9_13 : AC := .cond (.t 39) a9_12 .skip
def a9_14 : AC := .seq a9_10 a9_13
def a9_15 : AC := .seq a9_9 a9_14
def a9_16 : AC := .block 1 a9_15
def a9l17 : List AOp := [oD 40 (.bin .add (.t 17) (.k (.int .i64 1))),
oD 17 (.mv (.t 40))]
def a9_17 : AC := .reg a9l17
def a9_18 : AC := .seq a9_16 a9_17
def a9_19 : AC := .seq a9_8 a9_18
def a9_20 : AC := .seq a9_7 a9_19
def a9_21 : AC := .loop [1, 15, 16, 17] 0 a9_20
def a9_22 : AC := .block 0 a9_21
def a9_23 : AC := .seq a9_6 a9_22
def a9l24 : List AOp := [oD 4 (.mv (.k (.bool true)))]
def a9_24 : AC := .reg a9l24
def a9_25 : AC := .seq a9_24 .ret
def a9_26 : AC := .seq a9_23 a9_25
def a9_27 : AC := .seq a9_5 a9_26
def a9_28 : AC := .seq a9_0 a9_27
def ac_root_may : AC := a9_28
theorem comp_root_may : compF Tryz.prog [] (drawR Tryz.prog [] Tryz.f42.ntmps) [([1, 15, 16, 17], 0)] 2 Tryz.f42 = some (ac_root_may, [.t 4]) := by kernel_rfl
def U_root_may := J oA (J (J (J (J (J (J @ac_root_may.eq_1 (@mR _ _ a9_0.eq_1)) (@mR _ _ a9_1.eq_1)) (J (@mR _ _ a9_2.eq_1) (@mU _ _ a9_3.eq_1))) (J (J (J (@mU _ _ a9_4.eq_1) (@mU _ _ a9_5.eq_1)) (@mR _ _ a9_6.eq_1)) (J (@mR _ _ a9_7.eq_1) (@mU _ _ a9_8.eq_1)))) (J (J (J (J (@mR _ _ a9_9.eq_1) (@mD _ _ _ a9_10.eq_1)) (@mR _ _ a9_11.eq_1)) (J (@mU _ _ a9_12.eq_1) (@mU _ _ a9_13.eq_1))) (J (J (J (@mU _ _ a9_14.eq_1) (@mU _ _ a9_15.eq_1)) (@mU _ _ a9_16.eq_1)) (J (@mR _ _ a9_17.eq_1) (@mU _ _ a9_18.eq_1))))) (J (J (J (J (J (@mU _ _ a9_19.eq_1) (@mU _ _ a9_20.eq_1)) (@mU _ _ a9_21.eq_1)) (J (@mU _ _ a9_22.eq_1) (@mU _ _ a9_23.eq_1))) (J (J (J (@mR _ _ a9_24.eq_1) (@mU _ _ a9_25.eq_1)) (@mU _ _ a9_26.eq_1)) (J (@mU _ _ a9_27.eq_1) (@mU _ _ a9_28.eq_1)))) (J (J (J (J @a9l0.eq_1 @a9l1.eq_1) @a9l2.eq_1) (J @a9l6.eq_1 @a9l7.eq_1)) (J (J (J @a9l9.eq_1 @a9l10.eq_1) @a9l11.eq_1) (J @a9l17.eq_1 @a9l24.eq_1)))))

/- scoria/field.Row -/
def a10l0 : List AOp := [oD 4 (.mv (.k (.str []))),
oD 5 (.mv (.k (.int .i64 0)))]
def a10_0 : AC := .reg a10l0
def a10l1 : List AOp := [oD 9 (.mv (.t 0)),
oD 10 (.len (.t 9)),
oD 11 (.mv (.t 1)),
oD 12 (.len (.t 11)),
oD 13 (.bin .neq (.t 10) (.t 12)),
oD 14 (.mv (.t 13)),
oG 15 (.mv (.t 1)) 14 false,
oG 16 (.call false 68 [(.t 15), (.k (.fn (.func 69) [] []))]) 14 false,
oD 17 (.pick (.t 14) (.k (.bool true)) (.t 16))]
def a10_1 : AC := .reg a10l1
def a10l2 : List AOp := [oD 4 (.mv (.k (.str []))),
oD 5 (.mv (.k (.int .i64 1)))]
def a10_2 : AC := .reg a10l2
def a10_3 : AC := .seq a10_2 .ret
def a10_4 : AC := .cond (.t 17) a10_3 .skip
def a10_5 : AC := .seq a10_1 a10_4
def a10l6 : List AOp := [oD 6 (.balloc 163 5)]
def a10_6 : AC := .reg a10l6
def a10l7 : List AOp := [oD 18 (.mv (.t 0)),
oD 19 (.len (.t 18)),
oD 20 (.mv (.k (.int .i64 0)))]
def a10_7 : AC := .reg a10l7
def a10l8 : List AOp := [oD 21 (.bin .lss (.t 20) (.t 19))]
def a10_8 : AC := .reg a10l8
def a10_9 : AC := .cond (.t 21) .skip (.exit 0)
def a10l10 : List AOp := [oD 22 (.mv (.t 20)),
oD 23 (.isl 1 (.t 18) (.t 20)),
oD 24 (.load none (.t 23)),
oD 7 (.mv (.t 22)),
oD 8 (.mv (.t 24))]
def a10_10 : AC := .reg a10l10
def a10l11 : List AOp := [oD 25 (.mv (.t 8)),
oD 26 (.mv (.t 1)),
oD 27 (.mv (.t 7)),
oD 28 (.isl 1 (.t 26) (.t 27)),
oD 29 (.load none (.t 28)),
oD 30 (.call false 79 [(.t 25), (.t 29)]),
oD 31 (.un .not (.t 30))]
def a10_11 : AC := .reg a10l11
def a10l12 : List AOp := [oD 4 (.mv (.k (.str []))),
oD 5 (.mv (.k (.int .i64 2)))]
def a10_12 : AC := .reg a10l12
def a10_13 : AC := .seq a10_12 .ret
def a10_14 : AC := .cond (.t 31) a10_13 .skip
def a10_15 : AC := .seq a10_11 a10_14
def a10l16 : List AOp := [oD 32 (.mv (.t 8)),
oD 33 (.mv (.t 1)),
oD 34 (.mv (.t 7)),
oD 35 (.isl 1 (.t 33) (.t 34)),
oD 36 (.load none (.t 35)),
oD 37 (.call false 81 [(.t 32), (.t 36)]),
oD 38 (.icall 80 [(.t 6), (.t 37)])]
def a10_16 : AC := .reg a10l16
def a10_17 : AC := .seq a10_15 a10_16
def a10_18 : AC := .seq a10_10 a10_17
def a10_19 : AC := .block 1 a10_18
def a10l20 : List AOp := [oD 39 (.bin .add (.t 20) (.k (.int .i64 1))),
oD 20 (.mv (.t 39))]
def a10_20 : AC := .reg a10l20
def a10_21 : AC := .seq a10_19 a10_20
def a10_22 : AC := .seq a10_9 a10_21
def a10_23 : AC := .seq a10_8 a10_22
def a10_24 : AC := .loop [1, 6, 18, 19, 20] 2 a10_23
def a10_25 : AC := .block 0 a10_24
def a10_26 : AC := .seq a10_7 a10_25
def a10l27 : List AOp := [oD 40 (.icall 82 [(.t 6)]),
oD 4 (.mv (.t 40)),
oD 5 (.mv (.k (.int .i64 0)))]
def a10_27 : AC := .reg a10l27
def a10_28 : AC := .seq a10_27 .ret
def a10_29 : AC := .seq a10_26 a10_28
def a10_30 : AC := .seq a10_6 a10_29
def a10_31 : AC := .seq a10_5 a10_30
def a10_32 : AC := .seq a10_0 a10_31
def ac_field_Row : AC := a10_32
theorem comp_field_Row : compF Tryz.prog [6, 1000080, 1000082] (drawR Tryz.prog [6, 1000080, 1000082] Tryz.f43.ntmps) [([1, 6, 18, 19, 20], 2)] 2 Tryz.f43 = some (ac_field_Row, [.t 4, .t 5]) := by kernel_rfl
def U_field_Row := J oA (J (J (J (J (J (J @ac_field_Row.eq_1 (@mR _ _ a10_0.eq_1)) (@mR _ _ a10_1.eq_1)) (J (J (@mR _ _ a10_2.eq_1) (@mU _ _ a10_3.eq_1)) (@mU _ _ a10_4.eq_1))) (J (J (J (@mU _ _ a10_5.eq_1) (@mR _ _ a10_6.eq_1)) (@mR _ _ a10_7.eq_1)) (J (J (@mR _ _ a10_8.eq_1) (@mU _ _ a10_9.eq_1)) (@mR _ _ a10_10.eq_1)))) (J (J (J (J (@mR _ _ a10_11.eq_1) (@mR _ _ a10_12.eq_1)) (@mU _ _ a10_13.eq_1)) (J (J (@mU _ _ a10_14.eq_1) (@mU _ _ a10_15.eq_1)) (@mR _ _ a10_16.eq_1))) (J (J (J (@mU _ _ a10_17.eq_1) (@mU _ _ a10_18.eq_1)) (@mU _ _ a10_19.eq_1)) (J (@mR _ _ a10_20.eq_1) (@mU _ _ a10_21.eq_1))))) (J (J (J (J (J (@mU _ _ a10_22.eq_1) (@mU _ _ a10_23.eq_1)) (@mU _ _ a10_24.eq_1)) (J (J (@mU _ _ a10_25.eq_1) (@mU _ _ a10_26.eq_1)) (@mR _ _ a10_27.eq_1))) (J (J (J (@mU _ _ a10_28.eq_1) (@mU _ _ a10_29.eq_1)) (@mU _ _ a10_30.eq_1)) (J (J (@mU _ _ a10_31.eq_1) (@mU _ _ a10_32.eq_1)) @a10l0.eq_1))) (J (J (J (J @a10l1.eq_1 @a10l2.eq_1) @a10l6.eq_1) (J (J @a10l7.eq_1 @a10l8.eq_1) @a10l10.eq_1)) (J (J (J @a10l11.eq_1 @a10l12.eq_1) @a10l16.eq_1) (J @a10l20.eq_1 @a10l27.eq_1)))))

/- scoria/root.head -/
def a11l0 : List AOp := [oD 0 (.mv (.k (.slc [])))]
def a11_0 : AC := .reg a11l0
def a11l1 : List AOp := [oD 1 (.blds false [(.int .i64 0)] 2 [(0, (.k (.int .i64 5))), (1, (.k (.int .i64 1)))]),
oD 0 (.mv (.t 1))]
def a11_1 : AC := .reg a11l1
def a11_2 : AC := .seq a11_1 .ret
def a11_3 : AC := .seq a11_0 a11_2
def ac_root_head : AC := a11_3
theorem comp_root_head : compF Tryz.prog [] (drawR Tryz.prog [] Tryz.f44.ntmps) [] 0 Tryz.f44 = some (ac_root_head, [.t 0]) := by kernel_rfl
def U_root_head := J oA (J (J (J @ac_root_head.eq_1 (@mR _ _ a11_0.eq_1)) (J (@mR _ _ a11_1.eq_1) (@mU _ _ a11_2.eq_1))) (J (J (@mU _ _ a11_3.eq_1) @a11l0.eq_1) @a11l1.eq_1))

/- scoria/root.each -/
def a12l0 : List AOp := [oD 0 (.mv (.k (.slc [])))]
def a12_0 : AC := .reg a12l0
def a12l1 : List AOp := [oD 1 (.blds false [(.int .i64 0)] 4 [(0, (.k (.int .i64 2))), (1, (.k (.int .i64 4))), (2, (.k (.int .i64 2))), (3, (.k (.int .i64 1)))]),
oD 0 (.mv (.t 1))]
def a12_1 : AC := .reg a12l1
def a12_2 : AC := .seq a12_1 .ret
def a12_3 : AC := .seq a12_0 a12_2
def ac_root_each : AC := a12_3
theorem comp_root_each : compF Tryz.prog [] (drawR Tryz.prog [] Tryz.f45.ntmps) [] 0 Tryz.f45 = some (ac_root_each, [.t 0]) := by kernel_rfl
def U_root_each := J oA (J (J (J @ac_root_each.eq_1 (@mR _ _ a12_0.eq_1)) (J (@mR _ _ a12_1.eq_1) (@mU _ _ a12_2.eq_1))) (J (J (@mU _ _ a12_3.eq_1) @a12l0.eq_1) @a12l1.eq_1))

/- cmp.Compare[int] -/
def a13l0 : List AOp := [oD 4 (.mv (.k (.int .i64 0)))]
def a13_0 : AC := .reg a13l0
def a13l1 : List AOp := [oD 7 (.mv (.t 0)),
oD 8 (.call false 87 [(.t 7)]),
oD 5 (.mv (.t 8))]
def a13_1 : AC := .reg a13l1
def a13l2 : List AOp := [oD 9 (.mv (.t 1)),
oD 10 (.call false 87 [(.t 9)]),
oD 6 (.mv (.t 10))]
def a13_2 : AC := .reg a13l2
def a13l3 : List AOp := [oD 11 (.mv (.t 5))]
def a13_3 : AC := .reg a13l3
def a13l4 : List AOp := [oD 12 (.mv (.t 6))]
def a13_4 : AC := .reg a13l4
def a13l5 : List AOp := [oD 4 (.mv (.k (.int .i64 0)))]
def a13_5 : AC := .reg a13l5
def a13_6 : AC := .seq a13_5 .ret
def a13_7 : AC := .cond (.t 12) a13_6 .skip
def a13_8 : AC := .seq a13_4 a13_7
def a13l9 : List AOp := [oD 4 (.mv (.k (.int .i64 (-1))))]
def a13_9 : AC := .reg a13l9
def a13_10 : AC := .seq a13_9 .ret
def a13_11 : AC := .seq a13_8 a13_10
def a13_12 : AC := .cond (.t 11) a13_11 .skip
def a13_13 : AC := .seq a13_3 a13_12
def a13l14 : List AOp := [oD 13 (.mv (.t 6))]
def a13_14 : AC := .reg a13l14
def a13l15 : List AOp := [oD 4 (.mv (.k (.int .i64 1)))]
def a13_15 : AC := .reg a13l15
def a13_16 : AC := .seq a13_15 .ret
def a13_17 : AC := .cond (.t 13) a13_16 .skip
def a13_18 : AC := .seq a13_14 a13_17
def a13l19 : List AOp := [oD 14 (.mv (.t 0)),
oD 15 (.mv (.t 1)),
oD 16 (.bin .lss (.t 14) (.t 15))]
def a13_19 : AC := .reg a13l19
def a13l20 : List AOp := [oD 4 (.mv (.k (.int .i64 (-1))))]
def a13_20 : AC := .reg a13l20
def a13_21 : AC := .seq a13_20 .ret
def a13_22 : AC := .cond (.t 16) a13_21 .skip
def a13_23 : AC := .seq a13_19 a13_22
def a13l24 : List AOp := [oD 17 (.mv (.t 0)),
oD 18 (.mv (.t 1)),
oD 19 (.bin .gtr (.t 17) (.t 18))]
def a13_24 : AC := .reg a13l24
def a13l25 : List AOp := [oD 4 (.mv (.k (.int .i64 1)))]
def a13_25 : AC := .reg a13l25
def a13_26 : AC := .seq a13_25 .ret
def a13_27 : AC := .cond (.t 19) a13_26 .skip
def a13_28 : AC := .seq a13_24 a13_27
def a13l29 : List AOp := [oD 4 (.mv (.k (.int .i64 0)))]
def a13_29 : AC := .reg a13l29
def a13_30 : AC := .seq a13_29 .ret
def a13_31 : AC := .seq a13_28 a13_30
def a13_32 : AC := .seq a13_23 a13_31
def a13_33 : AC := .seq a13_18 a13_32
def a13_34 : AC := .seq a13_13 a13_33
def a13_35 : AC := .seq a13_2 a13_34
def a13_36 : AC := .seq a13_1 a13_35
def a13_37 : AC := .seq a13_0 a13_36
def ac_cmp_Compare_int : AC := a13_37
theorem comp_cmp_Compare_int : compF Tryz.prog [] (drawR Tryz.prog [] Tryz.f50.ntmps) [] 2 Tryz.f50 = some (ac_cmp_Compare_int, [.t 4]) := by kernel_rfl
def U_cmp_Compare_int := J oA (J (J (J (J (J (J @ac_cmp_Compare_int.eq_1 (@mR _ _ a13_0.eq_1)) (J (@mR _ _ a13_1.eq_1) (@mR _ _ a13_2.eq_1))) (J (J (@mR _ _ a13_3.eq_1) (@mR _ _ a13_4.eq_1)) (@mR _ _ a13_5.eq_1))) (J (J (J (@mU _ _ a13_6.eq_1) (@mU _ _ a13_7.eq_1)) (J (@mU _ _ a13_8.eq_1) (@mR _ _ a13_9.eq_1))) (J (J (@mU _ _ a13_10.eq_1) (@mU _ _ a13_11.eq_1)) (@mU _ _ a13_12.eq_1)))) (J (J (J (J (@mU _ _ a13_13.eq_1) (@mR _ _ a13_14.eq_1)) (J (@mR _ _ a13_15.eq_1) (@mU _ _ a13_16.eq_1))) (J (J (@mU _ _ a13_17.eq_1) (@mU _ _ a13_18.eq_1)) (@mR _ _ a13_19.eq_1))) (J (J (J (@mR _ _ a13_20.eq_1) (@mU _ _ a13_21.eq_1)) (@mU _ _ a13_22.eq_1)) (J (J (@mU _ _ a13_23.eq_1) (@mR _ _ a13_24.eq_1)) (@mR _ _ a13_25.eq_1))))) (J (J (J (J (J (@mU _ _ a13_26.eq_1) (@mU _ _ a13_27.eq_1)) (J (@mU _ _ a13_28.eq_1) (@mR _ _ a13_29.eq_1))) (J (J (@mU _ _ a13_30.eq_1) (@mU _ _ a13_31.eq_1)) (@mU _ _ a13_32.eq_1))) (J (J (J (@mU _ _ a13_33.eq_1) (@mU _ _ a13_34.eq_1)) (@mU _ _ a13_35.eq_1)) (J (J (@mU _ _ a13_36.eq_1) (@mU _ _ a13_37.eq_1)) @a13l0.eq_1))) (J (J (J (J @a13l1.eq_1 @a13l2.eq_1) (J @a13l3.eq_1 @a13l4.eq_1)) (J (J @a13l5.eq_1 @a13l9.eq_1) @a13l14.eq_1)) (J (J (J @a13l15.eq_1 @a13l19.eq_1) @a13l20.eq_1) (J (J @a13l24.eq_1 @a13l25.eq_1) @a13l29.eq_1)))))

/- scoria/root.top -/
def a14l0 : List AOp := [oD 4 (.mv (.k (.int .i64 0)))]
def a14_0 : AC := .reg a14l0
def a14l1 : List AOp := [oD 5 (.mv (.t 1)),
oD 6 (.bin .eql (.t 5) (.k (.int .u64 0)))]
def a14_1 : AC := .reg a14l1
def a14l2 : List AOp := [oD 4 (.mv (.k (.int .i64 (-1))))]
def a14_2 : AC := .reg a14l2
def a14_3 : AC := .seq a14_2 .ret
def a14_4 : AC := .cond (.t 6) a14_3 .skip
def a14_5 : AC := .seq a14_1 a14_4
def a14l6 : List AOp := [oD 7 (.mv (.t 0)),
oD 8 (.conv .i64 (.t 7)),
oD 4 (.mv (.t 8))]
def a14_6 : AC := .reg a14l6
def a14_7 : AC := .seq a14_6 .ret
def a14_8 : AC := .seq a14_5 a14_7
def a14_9 : AC := .seq a14_0 a14_8
def ac_root_top : AC := a14_9
theorem comp_root_top : compF Tryz.prog [] (drawR Tryz.prog [] Tryz.f51.ntmps) [] 2 Tryz.f51 = some (ac_root_top, [.t 4]) := by kernel_rfl
def U_root_top := J oA (J (J (J (J @ac_root_top.eq_1 (@mR _ _ a14_0.eq_1)) (J (@mR _ _ a14_1.eq_1) (@mR _ _ a14_2.eq_1))) (J (J (@mU _ _ a14_3.eq_1) (@mU _ _ a14_4.eq_1)) (J (@mU _ _ a14_5.eq_1) (@mR _ _ a14_6.eq_1)))) (J (J (J (@mU _ _ a14_7.eq_1) (@mU _ _ a14_8.eq_1)) (J (@mU _ _ a14_9.eq_1) @a14l0.eq_1)) (J (J @a14l1.eq_1 @a14l2.eq_1) @a14l6.eq_1)))

/- scoria/check.Seal -/
def a15l0 : List AOp := [oD 2 (.mv (.k (.str [])))]
def a15_0 : AC := .reg a15l0
def a15l1 : List AOp := [oD 4 (.mv (.t 0)),
oD 5 (.call false 108 [(.t 4)]),
oD 3 (.mv (.t 5))]
def a15_1 : AC := .reg a15l1
def a15l2 : List AOp := [oD 6 (.mv (.t 0)),
oD 7 (.mv (.t 3)),
oD 8 (.bin .shr (.t 7) (.k (.int .u64 24))),
oD 9 (.conv .u8 (.t 8)),
oD 10 (.mv (.t 3)),
oD 11 (.bin .shr (.t 10) (.k (.int .u64 16))),
oD 12 (.conv .u8 (.t 11)),
oD 13 (.mv (.t 3)),
oD 14 (.bin .shr (.t 13) (.k (.int .u64 8))),
oD 15 (.conv .u8 (.t 14)),
oD 16 (.mv (.t 3)),
oD 17 (.conv .u8 (.t 16)),
oD 18 (.blds false [(.int .u8 0)] 4 [(0, (.t 9)), (1, (.t 12)), (2, (.t 15)), (3, (.t 17))]),
oD 19 (.b2s (.t 18)),
oD 20 (.bin .add (.t 6) (.t 19)),
oD 2 (.mv (.t 20))]
def a15_2 : AC := .reg a15l2
def a15_3 : AC := .seq a15_2 .ret
def a15_4 : AC := .seq a15_1 a15_3
def a15_5 : AC := .seq a15_0 a15_4
def ac_check_Seal : AC := a15_5
theorem comp_check_Seal : compF Tryz.prog [] (drawR Tryz.prog [] Tryz.f65.ntmps) [] 1 Tryz.f65 = some (ac_check_Seal, [.t 2]) := by kernel_rfl
def U_check_Seal := J oA (J (J (J (J @ac_check_Seal.eq_1 (@mR _ _ a15_0.eq_1)) (@mR _ _ a15_1.eq_1)) (J (@mR _ _ a15_2.eq_1) (@mU _ _ a15_3.eq_1))) (J (J (J (@mU _ _ a15_4.eq_1) (@mU _ _ a15_5.eq_1)) @a15l0.eq_1) (J @a15l1.eq_1 @a15l2.eq_1)))

/- slices.ContainsFunc[[]int,int] -/
def a16l0 : List AOp := [oD 4 (.mv (.k (.bool false)))]
def a16_0 : AC := .reg a16l0
def a16l1 : List AOp := [oD 5 (.mv (.t 0)),
oD 6 (.mv (.t 1)),
oD 7 (.call false 115 [(.t 5), (.t 6)]),
oD 8 (.bin .geq (.t 7) (.k (.int .i64 0))),
oD 4 (.mv (.t 8))]
def a16_1 : AC := .reg a16l1
def a16_2 : AC := .seq a16_1 .ret
def a16_3 : AC := .seq a16_0 a16_2
def ac_slices_ContainsFunc_int : AC := a16_3
theorem comp_slices_ContainsFunc_int : compF Tryz.prog [] (drawR Tryz.prog [] Tryz.f68.ntmps) [] 2 Tryz.f68 = some (ac_slices_ContainsFunc_int, [.t 4]) := by kernel_rfl
def U_slices_ContainsFunc_int := J oA (J (J (J @ac_slices_ContainsFunc_int.eq_1 (@mR _ _ a16_0.eq_1)) (J (@mR _ _ a16_1.eq_1) (@mU _ _ a16_2.eq_1))) (J (J (@mU _ _ a16_3.eq_1) @a16l0.eq_1) @a16l1.eq_1))

/- scoria/field.wrong -/
def a17l0 : List AOp := [oD 2 (.mv (.k (.bool false)))]
def a17_0 : AC := .reg a17l0
def a17l1 : List AOp := [oD 3 (.mv (.t 0)),
oD 4 (.call false 116 [(.t 3)]),
oD 5 (.un .not (.t 4)),
oD 2 (.mv (.t 5))]
def a17_1 : AC := .reg a17l1
def a17_2 : AC := .seq a17_1 .ret
def a17_3 : AC := .seq a17_0 a17_2
def ac_field_wrong : AC := a17_3
theorem comp_field_wrong : compF Tryz.prog [] (drawR Tryz.prog [] Tryz.f69.ntmps) [] 1 Tryz.f69 = some (ac_field_wrong, [.t 2]) := by kernel_rfl
def U_field_wrong := J oA (J (J (J @ac_field_wrong.eq_1 (@mR _ _ a17_0.eq_1)) (J (@mR _ _ a17_1.eq_1) (@mU _ _ a17_2.eq_1))) (J (J (@mU _ _ a17_3.eq_1) @a17l0.eq_1) @a17l1.eq_1))

/- scoria/field.Get -/
def a18l0 : List AOp := [oD 6 (.mv (.k (.int .u64 0))),
oD 7 (.mv (.k (.int .i64 0)))]
def a18_0 : AC := .reg a18l0
def a18l1 : List AOp := [oD 11 (.mv (.t 2)),
oD 12 (.call false 116 [(.t 11)]),
oD 13 (.un .not (.t 12)),
oD 14 (.mv (.t 13)),
oG 15 (.mv (.t 1)) 14 false,
oG 16 (.bin .lss (.t 15) (.k (.int .i64 0))) 14 false,
oD 17 (.pick (.t 14) (.k (.bool true)) (.t 16)),
oD 10 (.mv (.t 17))]
def a18_1 : AC := .reg a18l1
def a18l2 : List AOp := [oD 6 (.mv (.k (.int .u64 0))),
oD 7 (.mv (.k (.int .i64 1)))]
def a18_2 : AC := .reg a18l2
def a18_3 : AC := .seq a18_2 .ret
def a18l4 : List AOp := [oD 19 (.mv (.t 1)),
oD 20 (.mv (.t 0)),
oD 21 (.lens (.t 20)),
oD 22 (.bin .gtr (.t 19) (.t 21)),
oD 23 (.mv (.t 22)),
oG 24 (.mv (.t 0)) 23 false,
oG 25 (.lens (.t 24)) 23 false,
oG 26 (.mv (.t 1)) 23 false,
oG 27 (.bin .sub (.t 25) (.t 26)) 23 false,
oG 28 (.mv (.t 2)) 23 false,
oG 29 (.bin .lss (.t 27) (.t 28)) 23 false,
oD 30 (.pick (.t 23) (.k (.bool true)) (.t 29)),
oD 18 (.mv (.t 30))]
def a18_4 : AC := .reg a18l4
def a18l5 : List AOp := [oD 6 (.mv (.k (.int .u64 0))),
oD 7 (.mv (.k (.int .i64 5)))]
def a18_5 : AC := .reg a18l5
def a18_6 : AC := .seq a18_5 .ret
def a18_7 : AC := .cond (.t 18) a18_6 .skip
def a18_8 : AC := .seq a18_4 a18_7
def a18_9 : AC := .cond (.t 10) a18_3 a18_8
def a18_10 : AC := .seq a18_1 a18_9
def a18_11 : AC := .block 0 a18_10
def a18l12 : List AOp := [oD 8 (.mv (.k (.int .u64 0)))]
def a18_12 : AC := .reg a18l12
def a18l13 : List AOp := [oD 31 (.mv (.t 2)),
oD 32 (.bin .sub (.t 31) (.k (.int .i64 1))),
oD 9 (.mv (.t 32))]
def a18_13 : AC := .reg a18l13
def a18l14 : List AOp := [oD 33 (.mv (.t 9)),
oD 34 (.bin .geq (.t 33) (.k (.int .i64 0)))]
def a18_14 : AC := .reg a18l14
def a18_15 : AC := .cond (.t 34) .skip (.exit 1)
def a18_16 : AC := .seq a18_14 a18_15
def a18l17 : List AOp := [oD 37 (.mv (.t 8)),
oD 38 (.bin .shl (.t 37) (.k (.int .u64 8))),
oD 39 (.mv (.t 0)),
oD 40 (.mv (.t 1)),
oD 41 (.mv (.t 9)),
oD 42 (.bin .add (.t 40) (.t 41)),
oD 43 (.idxs (.t 39) (.t 42)),
oD 44 (.conv .u64 (.t 43)),
oD 45 (.bin .or (.t 38) (.t 44)),
oD 8 (.mv (.t 45))]
def a18_17 : AC := .reg a18l17
def a18_18 : AC := .block 2 a18_17
def a18l19 : List AOp := [oD 35 (.mv (.t 9)),
oD 36 (.bin .sub (.t 35) (.k (.int .i64 1))),
oD 9 (.mv (.t 36))]
def a18_19 : AC := .reg a18l19
def a18_20 : AC := .seq a18_18 a18_19
def a18_21 : AC := .seq a18_16 a18_20
def a18_22 : AC := .loop [0, 1, 8, 9] 0 a18_21
def a18_23 : AC := .block 1 a18_22
def a18_24 : AC := .seq a18_13 a18_23
def a18l25 : List AOp := [oD 46 (.mv (.t 8)),
oD 6 (.mv (.t 46)),
oD 7 (.mv (.k (.int .i64 0)))]
def a18_25 : AC := .reg a18l25
def a18_26 : AC := .seq a18_25 .ret
def a18_27 : AC := .seq a18_24 a18_26
def a18_28 : AC := .seq a18_12 a18_27
def a18_29 : AC := .seq a18_11 a18_28
def a18_30 : AC := .seq a18_0 a18_29
def ac_field_Get : AC := a18_30
theorem comp_field_Get : compF Tryz.prog [] (drawR Tryz.prog [] Tryz.f70.ntmps) [([0, 1, 8, 9], 0)] 3 Tryz.f70 = some (ac_field_Get, [.t 6, .t 7]) := by kernel_rfl
def U_field_Get := J oA (J (J (J (J (J (J @ac_field_Get.eq_1 (@mR _ _ a18_0.eq_1)) (@mR _ _ a18_1.eq_1)) (J (J (@mR _ _ a18_2.eq_1) (@mU _ _ a18_3.eq_1)) (@mR _ _ a18_4.eq_1))) (J (J (J (@mR _ _ a18_5.eq_1) (@mU _ _ a18_6.eq_1)) (@mU _ _ a18_7.eq_1)) (J (@mU _ _ a18_8.eq_1) (@mU _ _ a18_9.eq_1)))) (J (J (J (J (@mU _ _ a18_10.eq_1) (@mU _ _ a18_11.eq_1)) (@mR _ _ a18_12.eq_1)) (J (J (@mR _ _ a18_13.eq_1) (@mR _ _ a18_14.eq_1)) (@mU _ _ a18_15.eq_1))) (J (J (J (@mU _ _ a18_16.eq_1) (@mR _ _ a18_17.eq_1)) (@mU _ _ a18_18.eq_1)) (J (@mR _ _ a18_19.eq_1) (@mU _ _ a18_20.eq_1))))) (J (J (J (J (J (@mU _ _ a18_21.eq_1) (@mU _ _ a18_22.eq_1)) (@mU _ _ a18_23.eq_1)) (J (J (@mU _ _ a18_24.eq_1) (@mR _ _ a18_25.eq_1)) (@mU _ _ a18_26.eq_1))) (J (J (J (@mU _ _ a18_27.eq_1) (@mU _ _ a18_28.eq_1)) (@mU _ _ a18_29.eq_1)) (J (@mU _ _ a18_30.eq_1) @a18l0.eq_1))) (J (J (J (J @a18l1.eq_1 @a18l2.eq_1) @a18l4.eq_1) (J @a18l5.eq_1 @a18l12.eq_1)) (J (J (J @a18l13.eq_1 @a18l14.eq_1) @a18l17.eq_1) (J @a18l19.eq_1 @a18l25.eq_1)))))

/- scoria/page.in -/
def a19l0 : List AOp := [oD 4 (.mv (.k (.bool false)))]
def a19_0 : AC := .reg a19l0
def a19l1 : List AOp := [oD 5 (.mv (.t 0)),
oD 6 (.bin .geq (.t 5) (.k (.int .i64 0))),
oD 7 (.mv (.t 6)),
oG 8 (.mv (.t 0)) 7 true,
oG 9 (.mv (.t 1)) 7 true,
oG 10 (.bin .leq (.t 8) (.t 9)) 7 true,
oD 11 (.pick (.t 7) (.t 10) (.k (.bool false))),
oD 4 (.mv (.t 11))]
def a19_1 : AC := .reg a19l1
def a19_2 : AC := .seq a19_1 .ret
def a19_3 : AC := .seq a19_0 a19_2
def ac_page_in : AC := a19_3
theorem comp_page_in : compF Tryz.prog [] (drawR Tryz.prog [] Tryz.f71.ntmps) [] 2 Tryz.f71 = some (ac_page_in, [.t 4]) := by kernel_rfl
def U_page_in := J oA (J (J (J @ac_page_in.eq_1 (@mR _ _ a19_0.eq_1)) (J (@mR _ _ a19_1.eq_1) (@mU _ _ a19_2.eq_1))) (J (J (@mU _ _ a19_3.eq_1) @a19l0.eq_1) @a19l1.eq_1))

/- scoria/geom.Check -/
def a20l0 : List AOp := [oD 1 (.box (.t 0)),
oD 2 (.mv (.k (.int .i64 0)))]
def a20_0 : AC := .reg a20l0
def a20l1 : List AOp := [oD 3 (.faddr 0 (.t 1)),
oD 4 (.load none (.t 3)),
oD 5 (.bin .lss (.t 4) (.k (.int .i64 16))),
oD 6 (.mv (.t 5)),
oG 7 (.faddr 0 (.t 1)) 6 false,
oG 8 (.load none (.t 7)) 6 false,
oG 9 (.bin .gtr (.t 8) (.k (.int .i64 64))) 6 false,
oD 10 (.pick (.t 6) (.k (.bool true)) (.t 9)),
oD 11 (.mv (.t 10)),
oG 12 (.faddr 1 (.t 1)) 11 false,
oG 13 (.load none (.t 12)) 11 false,
oG 14 (.bin .lss (.t 13) (.k (.int .i64 8))) 11 false,
oD 15 (.pick (.t 11) (.k (.bool true)) (.t 14)),
oD 16 (.mv (.t 15)),
oG 17 (.faddr 1 (.t 1)) 16 false,
oG 18 (.load none (.t 17)) 16 false,
oG 19 (.bin .gtr (.t 18) (.k (.int .i64 32))) 16 false,
oD 20 (.pick (.t 16) (.k (.bool true)) (.t 19))]
def a20_1 : AC := .reg a20l1
def a20l2 : List AOp := [oD 2 (.mv (.k (.int .i64 1)))]
def a20_2 : AC := .reg a20l2
def a20_3 : AC := .seq a20_2 .ret
def a20_4 : AC := .cond (.t 20) a20_3 .skip
def a20_5 : AC := .seq a20_1 a20_4
def a20l6 : List AOp := [oD 2 (.mv (.k (.int .i64 0)))]
def a20_6 : AC := .reg a20l6
def a20_7 : AC := .seq a20_6 .ret
def a20_8 : AC := .seq a20_5 a20_7
def a20_9 : AC := .seq a20_0 a20_8
def ac_geom_Check : AC := a20_9
theorem comp_geom_Check : compF Tryz.prog [] (drawR Tryz.prog [] Tryz.f72.ntmps) [] 1 Tryz.f72 = some (ac_geom_Check, [.t 2]) := by kernel_rfl
def U_geom_Check := J oA (J (J (J (J @ac_geom_Check.eq_1 (@mR _ _ a20_0.eq_1)) (J (@mR _ _ a20_1.eq_1) (@mR _ _ a20_2.eq_1))) (J (J (@mU _ _ a20_3.eq_1) (@mU _ _ a20_4.eq_1)) (J (@mU _ _ a20_5.eq_1) (@mR _ _ a20_6.eq_1)))) (J (J (J (@mU _ _ a20_7.eq_1) (@mU _ _ a20_8.eq_1)) (J (@mU _ _ a20_9.eq_1) @a20l0.eq_1)) (J (J @a20l1.eq_1 @a20l2.eq_1) @a20l6.eq_1)))

/- scoria/geom.numbers -/
def a21l0 : List AOp := [oD 1 (.box (.t 0)),
oD 2 (.alloc [(.int .i64 0), (.int .i64 0), (.int .i64 0), (.int .i64 0), (.int .i64 0)])]
def a21_0 : AC := .reg a21l0
def a21l1 : List AOp := [oD 3 (.alloc [(.int .i64 0), (.int .i64 0), (.int .i64 0), (.int .i64 0), (.int .i64 0)])]
def a21_1 : AC := .reg a21l1
def a21l2 : List AOp := [oD 5 (.faddr 0 (.t 1)),
oD 6 (.load none (.t 5)),
oD 7 (.faddr 1 (.t 1)),
oD 8 (.load none (.t 7)),
oD 9 (.bin .mul (.t 6) (.t 8)),
oD 10 (.iarr 1 5 (.t 3) (.k (.int .i64 0))),
oN (.store 1 (.t 10) (.t 9))]
def a21_2 : AC := .reg a21l2
def a21l3 : List AOp := [oD 11 (.faddr 0 (.t 1)),
oD 12 (.load none (.t 11)),
oD 13 (.bin .quo (.t 12) (.k (.int .i64 8))),
oD 14 (.iarr 1 5 (.t 3) (.k (.int .i64 1))),
oN (.store 1 (.t 14) (.t 13))]
def a21_3 : AC := .reg a21l3
def a21l4 : List AOp := [oD 15 (.faddr 1 (.t 1)),
oD 16 (.load none (.t 15)),
oD 17 (.faddr 0 (.t 1)),
oD 18 (.load none (.t 17)),
oD 19 (.iarr 1 5 (.t 3) (.k (.int .i64 1))),
oD 20 (.load none (.t 19)),
oD 21 (.bin .sub (.t 18) (.t 20)),
oD 22 (.bin .sub (.t 21) (.k (.int .i64 4))),
oD 23 (.bin .mul (.t 16) (.t 22)),
oD 24 (.bin .quo (.t 23) (.k (.int .i64 16))),
oD 25 (.iarr 1 5 (.t 3) (.k (.int .i64 2))),
oN (.store 1 (.t 25) (.t 24))]
def a21_4 : AC := .reg a21l4
def a21l5 : List AOp := [oD 26 (.iarr 1 5 (.t 3) (.k (.int .i64 2))),
oD 27 (.load none (.t 26)),
oD 28 (.bin .quo (.t 27) (.k (.int .i64 2))),
oD 29 (.bin .add (.t 28) (.k (.int .i64 16))),
oD 30 (.iarr 1 5 (.t 3) (.k (.int .i64 3))),
oN (.store 1 (.t 30) (.t 29))]
def a21_5 : AC := .reg a21l5
def a21l6 : List AOp := [oD 31 (.faddr 1 (.t 1)),
oD 32 (.load none (.t 31)),
oD 33 (.bin .add (.k (.int .i64 8)) (.t 32)),
oD 34 (.iarr 1 5 (.t 3) (.k (.int .i64 3))),
oD 35 (.load none (.t 34)),
oD 36 (.bin .add (.t 33) (.t 35)),
oD 37 (.bin .add (.t 36) (.k (.int .i64 1))),
oD 4 (.mv (.t 37))]
def a21_6 : AC := .reg a21l6
def a21l7 : List AOp := [oD 38 (.iarr 1 5 (.t 3) (.k (.int .i64 1))),
oD 39 (.load none (.t 38)),
oD 40 (.bin .add (.k (.int .i64 2)) (.t 39)),
oD 41 (.mv (.t 4)),
oD 42 (.faddr 1 (.t 1)),
oD 43 (.load none (.t 42)),
oD 44 (.bin .add (.t 41) (.t 43)),
oD 45 (.bin .sub (.t 44) (.k (.int .i64 1))),
oD 46 (.faddr 1 (.t 1)),
oD 47 (.load none (.t 46)),
oD 48 (.bin .quo (.t 45) (.t 47)),
oD 49 (.bin .add (.t 40) (.t 48)),
oD 50 (.iarr 1 5 (.t 3) (.k (.int .i64 4))),
oN (.store 1 (.t 50) (.t 49))]
def a21_7 : AC := .dreg 0 a21l7
def a21l8 : List AOp := [oD 51 (.load (some 5) (.t 3)),
oN (.store 5 (.t 2) (.t 51))]
def a21_8 : AC := .reg a21l8
def a21_9 : AC := .seq a21_8 .ret
def a21_10 : AC := .seq a21_7 a21_9
def a21_11 : AC := .seq a21_6 a21_10
def a21_12 : AC := .seq a21_5 a21_11
def a21_13 : AC := .seq a21_4 a21_12
def a21_14 : AC := .seq a21_3 a21_13
def a21_15 : AC := .seq a21_2 a21_14
def a21_16 : AC := .seq a21_1 a21_15
def a21_17 : AC := .seq a21_0 a21_16
def ac_geom_numbers : AC := a21_17
theorem comp_geom_numbers : compF Tryz.prog [] (drawR Tryz.prog [] Tryz.f73.ntmps) [] 1 Tryz.f73 = some (ac_geom_numbers, [.c 2 (some 5)]) := by kernel_rfl
def U_geom_numbers := J oA (J (J (J (J (J @ac_geom_numbers.eq_1 (@mR _ _ a21_0.eq_1)) (J (@mR _ _ a21_1.eq_1) (@mR _ _ a21_2.eq_1))) (J (J (@mR _ _ a21_3.eq_1) (@mR _ _ a21_4.eq_1)) (@mR _ _ a21_5.eq_1))) (J (J (J (@mR _ _ a21_6.eq_1) (@mD _ _ _ a21_7.eq_1)) (J (@mR _ _ a21_8.eq_1) (@mU _ _ a21_9.eq_1))) (J (J (@mU _ _ a21_10.eq_1) (@mU _ _ a21_11.eq_1)) (@mU _ _ a21_12.eq_1)))) (J (J (J (J (@mU _ _ a21_13.eq_1) (@mU _ _ a21_14.eq_1)) (J (@mU _ _ a21_15.eq_1) (@mU _ _ a21_16.eq_1))) (J (J (@mU _ _ a21_17.eq_1) @a21l0.eq_1) @a21l1.eq_1)) (J (J (J @a21l2.eq_1 @a21l3.eq_1) (J @a21l4.eq_1 @a21l5.eq_1)) (J (J @a21l6.eq_1 @a21l7.eq_1) @a21l8.eq_1))))

/- scoria/root.in -/
def a22l0 : List AOp := [oD 6 (.mv (.k (.bool false)))]
def a22_0 : AC := .reg a22l0
def a22l1 : List AOp := [oD 7 (.mv (.t 0)),
oD 8 (.mv (.t 1)),
oD 9 (.bin .geq (.t 7) (.t 8)),
oD 10 (.mv (.t 9)),
oG 11 (.mv (.t 0)) 10 true,
oG 12 (.mv (.t 2)) 10 true,
oG 13 (.bin .leq (.t 11) (.t 12)) 10 true,
oD 14 (.pick (.t 10) (.t 13) (.k (.bool false))),
oD 6 (.mv (.t 14))]
def a22_1 : AC := .reg a22l1
def a22_2 : AC := .seq a22_1 .ret
def a22_3 : AC := .seq a22_0 a22_2
def ac_root_in : AC := a22_3
theorem comp_root_in : compF Tryz.prog [] (drawR Tryz.prog [] Tryz.f77.ntmps) [] 3 Tryz.f77 = some (ac_root_in, [.t 6]) := by kernel_rfl
def U_root_in := J oA (J (J (J @ac_root_in.eq_1 (@mR _ _ a22_0.eq_1)) (J (@mR _ _ a22_1.eq_1) (@mU _ _ a22_2.eq_1))) (J (J (@mU _ _ a22_3.eq_1) @a22l0.eq_1) @a22l1.eq_1))

/- scoria/root.space -/
def a23l0 : List AOp := [oD 1 (.box (.t 0)),
oD 2 (.mv (.k (.bool false)))]
def a23_0 : AC := .reg a23l0
def a23l1 : List AOp := [oD 3 (.faddr 0 (.t 1)),
oD 4 (.load none (.t 3)),
oD 5 (.call false 77 [(.t 4), (.k (.int .i64 1)), (.k (.int .i64 65535))]),
oD 6 (.un .not (.t 5)),
oD 7 (.mv (.t 6)),
oG 8 (.faddr 1 (.t 1)) 7 false,
oG 9 (.load none (.t 8)) 7 false,
oG 10 (.call false 77 [(.t 9), (.k (.int .i64 0)), (.k (.int .i64 16777216))]) 7 false,
oG 11 (.un .not (.t 10)) 7 false,
oD 12 (.pick (.t 7) (.k (.bool true)) (.t 11)),
oD 13 (.mv (.t 12)),
oG 14 (.faddr 3 (.t 1)) 13 false,
oG 15 (.load none (.t 14)) 13 false,
oG 16 (.call false 77 [(.t 15), (.k (.int .i64 0)), (.k (.int .i64 6))]) 13 false,
oG 17 (.un .not (.t 16)) 13 false,
oD 18 (.pick (.t 13) (.k (.bool true)) (.t 17))]
def a23_1 : AC := .reg a23l1
def a23l2 : List AOp := [oD 2 (.mv (.k (.bool false)))]
def a23_2 : AC := .reg a23l2
def a23_3 : AC := .seq a23_2 .ret
def a23_4 : AC := .cond (.t 18) a23_3 .skip
def a23_5 : AC := .seq a23_1 a23_4
def a23l6 : List AOp := [oD 19 (.faddr 3 (.t 1)),
oD 20 (.load none (.t 19)),
oD 21 (.bin .eql (.t 20) (.k (.int .i64 0)))]
def a23_6 : AC := .reg a23l6
def a23l7 : List AOp := [oD 22 (.faddr 2 (.t 1)),
oD 23 (.load none (.t 22)),
oD 24 (.bin .eql (.t 23) (.k (.int .i64 (-1)))),
oD 2 (.mv (.t 24))]
def a23_7 : AC := .reg a23l7
def a23_8 : AC := .seq a23_7 .ret
def a23_9 : AC := .cond (.t 21) a23_8 .skip
def a23_10 : AC := .seq a23_6 a23_9
def a23l11 : List AOp := [oD 25 (.faddr 2 (.t 1)),
oD 26 (.load none (.t 25)),
oD 27 (.call false 77 [(.t 26), (.k (.int .i64 0)), (.k (.int .i64 2047))]),
oD 2 (.mv (.t 27))]
def a23_11 : AC := .reg a23l11
def a23_12 : AC := .seq a23_11 .ret
def a23_13 : AC := .seq a23_10 a23_12
def a23_14 : AC := .seq a23_5 a23_13
def a23_15 : AC := .seq a23_0 a23_14
def ac_root_space : AC := a23_15
theorem comp_root_space : compF Tryz.prog [] (drawR Tryz.prog [] Tryz.f78.ntmps) [] 1 Tryz.f78 = some (ac_root_space, [.t 2]) := by kernel_rfl
def U_root_space := J oA (J (J (J (J (J @ac_root_space.eq_1 (@mR _ _ a23_0.eq_1)) (@mR _ _ a23_1.eq_1)) (J (J (@mR _ _ a23_2.eq_1) (@mU _ _ a23_3.eq_1)) (@mU _ _ a23_4.eq_1))) (J (J (J (@mU _ _ a23_5.eq_1) (@mR _ _ a23_6.eq_1)) (@mR _ _ a23_7.eq_1)) (J (J (@mU _ _ a23_8.eq_1) (@mU _ _ a23_9.eq_1)) (@mU _ _ a23_10.eq_1)))) (J (J (J (J (@mR _ _ a23_11.eq_1) (@mU _ _ a23_12.eq_1)) (@mU _ _ a23_13.eq_1)) (J (J (@mU _ _ a23_14.eq_1) (@mU _ _ a23_15.eq_1)) @a23l0.eq_1)) (J (J (J @a23l1.eq_1 @a23l2.eq_1) @a23l6.eq_1) (J @a23l7.eq_1 @a23l11.eq_1))))

/- scoria/field.fits -/
def a24l0 : List AOp := [oD 4 (.mv (.k (.bool false)))]
def a24_0 : AC := .reg a24l0
def a24l1 : List AOp := [oD 5 (.mv (.t 1)),
oD 6 (.bin .eql (.t 5) (.k (.int .i64 8))),
oD 7 (.mv (.t 6)),
oG 8 (.mv (.t 0)) 7 false,
oG 9 (.mv (.t 1)) 7 false,
oG 10 (.bin .mul (.k (.int .i64 8)) (.t 9)) 7 false,
oG 11 (.bin .shr (.t 8) (.t 10)) 7 false,
oG 12 (.bin .eql (.t 11) (.k (.int .u64 0))) 7 false,
oD 13 (.pick (.t 7) (.k (.bool true)) (.t 12)),
oD 4 (.mv (.t 13))]
def a24_1 : AC := .reg a24l1
def a24_2 : AC := .seq a24_1 .ret
def a24_3 : AC := .seq a24_0 a24_2
def ac_field_fits : AC := a24_3
theorem comp_field_fits : compF Tryz.prog [] (drawR Tryz.prog [] Tryz.f79.ntmps) [] 2 Tryz.f79 = some (ac_field_fits, [.t 4]) := by kernel_rfl
def U_field_fits := J oA (J (J (J @ac_field_fits.eq_1 (@mR _ _ a24_0.eq_1)) (J (@mR _ _ a24_1.eq_1) (@mU _ _ a24_2.eq_1))) (J (J (@mU _ _ a24_3.eq_1) @a24l0.eq_1) @a24l1.eq_1))

/- (*strings.Builder).WriteString -/
def a25l0 : List AOp := [oD 4 (.mv (.k (.int .i64 0))),
oD 5 (.mv (.k .nili))]
def a25_0 : AC := .reg a25l0
def a25l1 : List AOp := [oD 6 (.mv (.t 0)),
oD 7 (.icall 118 [(.t 6)])]
def a25_1 : AC := .reg a25l1
def a25l2 : List AOp := [oD 8 (.mv (.t 0)),
oD 9 (.mv (.t 0)),
oD 10 (.nilck (.t 9)),
oD 11 (.faddr 1 (.t 10)),
oD 12 (.load none (.t 11)),
oD 13 (.mv (.t 1)),
oD 14 (.apps 5 (.t 12) (.t 13)),
oD 15 (.nilck (.t 8)),
oD 16 (.faddr 1 (.t 15)),
oN (.store 1 (.t 16) (.t 14))]
def a25_2 : AC := .reg a25l2
def a25l3 : List AOp := [oD 17 (.mv (.t 1)),
oD 18 (.lens (.t 17)),
oD 4 (.mv (.t 18)),
oD 5 (.mv (.k .nili))]
def a25_3 : AC := .reg a25l3
def a25_4 : AC := .seq a25_3 .ret
def a25_5 : AC := .seq a25_2 a25_4
def a25_6 : AC := .seq a25_1 a25_5
def a25_7 : AC := .seq a25_0 a25_6
def ac_strings_Builder_WriteString : AC := a25_7
theorem comp_strings_Builder_WriteString : compF Tryz.prog [1000118] (drawR Tryz.prog [1000118] Tryz.f80.ntmps) [] 2 Tryz.f80 = some (ac_strings_Builder_WriteString, [.t 4, .t 5]) := by kernel_rfl
def U_strings_Builder_WriteString := J oA (J (J (J (J @ac_strings_Builder_WriteString.eq_1 (@mR _ _ a25_0.eq_1)) (J (@mR _ _ a25_1.eq_1) (@mR _ _ a25_2.eq_1))) (J (J (@mR _ _ a25_3.eq_1) (@mU _ _ a25_4.eq_1)) (@mU _ _ a25_5.eq_1))) (J (J (J (@mU _ _ a25_6.eq_1) (@mU _ _ a25_7.eq_1)) @a25l0.eq_1) (J (J @a25l1.eq_1 @a25l2.eq_1) @a25l3.eq_1)))

/- scoria/field.laid -/
def a26l0 : List AOp := [oD 4 (.mv (.k (.str [])))]
def a26_0 : AC := .reg a26l0
def a26l1 : List AOp := [oD 5 (.alloc (List.replicate 8 (.int .u8 0)))]
def a26_1 : AC := .reg a26l1
def a26l2 : List AOp := [oD 6 (.mv (.t 1))]
def a26_2 : AC := .reg a26l2
def a26l3 : List AOp := [oD 8 (.bin .eql (.t 6) (.k (.int .i64 8))),
oD 7 (.mv (.t 8))]
def a26_3 : AC := .reg a26l3
def a26_4 : AC := .cond (.t 7) (.exit 1) .skip
def a26_5 : AC := .seq a26_3 a26_4
def a26l6 : List AOp := [oD 10 (.bin .eql (.t 6) (.k (.int .i64 7))),
oD 9 (.mv (.t 10))]
def a26_6 : AC := .reg a26l6
def a26_7 : AC := .cond (.t 9) (.exit 2) .skip
def a26_8 : AC := .seq a26_6 a26_7
def a26l9 : List AOp := [oD 12 (.bin .eql (.t 6) (.k (.int .i64 6))),
oD 11 (.mv (.t 12))]
def a26_9 : AC := .reg a26l9
def a26_10 : AC := .cond (.t 11) (.exit 3) .skip
def a26_11 : AC := .seq a26_9 a26_10
def a26l12 : List AOp := [oD 14 (.bin .eql (.t 6) (.k (.int .i64 5))),
oD 13 (.mv (.t 14))]
def a26_12 : AC := .reg a26l12
def a26_13 : AC := .cond (.t 13) (.exit 4) .skip
def a26_14 : AC := .seq a26_12 a26_13
def a26l15 : List AOp := [oD 16 (.bin .eql (.t 6) (.k (.int .i64 4))),
oD 15 (.mv (.t 16))]
def a26_15 : AC := .reg a26l15
def a26_16 : AC := .cond (.t 15) (.exit 5) .skip
def a26_17 : AC := .seq a26_15 a26_16
def a26l18 : List AOp := [oD 18 (.bin .eql (.t 6) (.k (.int .i64 3))),
oD 17 (.mv (.t 18))]
def a26_18 : AC := .reg a26l18
def a26_19 : AC := .cond (.t 17) (.exit 6) .skip
def a26_20 : AC := .seq a26_18 a26_19
def a26l21 : List AOp := [oD 20 (.bin .eql (.t 6) (.k (.int .i64 2))),
oD 19 (.mv (.t 20))]
def a26_21 : AC := .reg a26l21
def a26_22 : AC := .cond (.t 19) (.exit 7) .skip
def a26_23 : AC := .seq a26_21 a26_22
def a26l24 : List AOp := [oD 22 (.bin .eql (.t 6) (.k (.int .i64 1))),
oD 21 (.mv (.t 22))]
def a26_24 : AC := .reg a26l24
def a26_25 : AC := .cond (.t 21) (.exit 8) .skip
def a26_26 : AC := .seq a26_24 a26_25
def a26_27 : AC := .seq a26_23 a26_26
def a26_28 : AC := .seq a26_20 a26_27
def a26_29 : AC := .seq a26_17 a26_28
def a26_30 : AC := .seq a26_14 a26_29
def a26_31 : AC := .seq a26_11 a26_30
def a26_32 : AC := .seq a26_8 a26_31
def a26_33 : AC := .seq a26_5 a26_32
def a26_34 : AC := .seq a26_33 (.exit 0)
def a26_35 : AC := .block 1 a26_34
def a26l36 : List AOp := [oD 23 (.mv (.t 0)),
oD 24 (.bin .shr (.t 23) (.k (.int .u64 56))),
oD 25 (.conv .u8 (.t 24)),
oD 26 (.iarr 1 8 (.t 5) (.k (.int .i64 7))),
oN (.store 1 (.t 26) (.t 25))]
def a26_36 : AC := .reg a26l36
def a26_37 : AC := .seq a26_35 a26_36
def a26_38 : AC := .block 2 a26_37
def a26l39 : List AOp := [oD 27 (.mv (.t 0)),
oD 28 (.bin .shr (.t 27) (.k (.int .u64 48))),
oD 29 (.conv .u8 (.t 28)),
oD 30 (.iarr 1 8 (.t 5) (.k (.int .i64 6))),
oN (.store 1 (.t 30) (.t 29))]
def a26_39 : AC := .reg a26l39
def a26_40 : AC := .seq a26_38 a26_39
def a26_41 : AC := .block 3 a26_40
def a26l42 : List AOp := [oD 31 (.mv (.t 0)),
oD 32 (.bin .shr (.t 31) (.k (.int .u64 40))),
oD 33 (.conv .u8 (.t 32)),
oD 34 (.iarr 1 8 (.t 5) (.k (.int .i64 5))),
oN (.store 1 (.t 34) (.t 33))]
def a26_42 : AC := .reg a26l42
def a26_43 : AC := .seq a26_41 a26_42
def a26_44 : AC := .block 4 a26_43
def a26l45 : List AOp := [oD 35 (.mv (.t 0)),
oD 36 (.bin .shr (.t 35) (.k (.int .u64 32))),
oD 37 (.conv .u8 (.t 36)),
oD 38 (.iarr 1 8 (.t 5) (.k (.int .i64 4))),
oN (.store 1 (.t 38) (.t 37))]
def a26_45 : AC := .reg a26l45
def a26_46 : AC := .seq a26_44 a26_45
def a26_47 : AC := .block 5 a26_46
def a26l48 : List AOp := [oD 39 (.mv (.t 0)),
oD 40 (.bin .shr (.t 39) (.k (.int .u64 24))),
oD 41 (.conv .u8 (.t 40)),
oD 42 (.iarr 1 8 (.t 5) (.k (.int .i64 3))),
oN (.store 1 (.t 42) (.t 41))]
def a26_48 : AC := .reg a26l48
def a26_49 : AC := .seq a26_47 a26_48
def a26_50 : AC := .block 6 a26_49
def a26l51 : List AOp := [oD 43 (.mv (.t 0)),
oD 44 (.bin .shr (.t 43) (.k (.int .u64 16))),
oD 45 (.conv .u8 (.t 44)),
oD 46 (.iarr 1 8 (.t 5) (.k (.int .i64 2))),
oN (.store 1 (.t 46) (.t 45))]
def a26_51 : AC := .reg a26l51
def a26_52 : AC := .seq a26_50 a26_51
def a26_53 : AC := .block 7 a26_52
def a26l54 : List AOp := [oD 47 (.mv (.t 0)),
oD 48 (.bin .shr (.t 47) (.k (.int .u64 8))),
oD 49 (.conv .u8 (.t 48)),
oD 50 (.iarr 1 8 (.t 5) (.k (.int .i64 1))),
oN (.store 1 (.t 50) (.t 49))]
def a26_54 : AC := .reg a26l54
def a26_55 : AC := .seq a26_53 a26_54
def a26_56 : AC := .block 8 a26_55
def a26l57 : List AOp := [oD 51 (.mv (.t 0)),
oD 52 (.conv .u8 (.t 51)),
oD 53 (.iarr 1 8 (.t 5) (.k (.int .i64 0))),
oN (.store 1 (.t 53) (.t 52))]
def a26_57 : AC := .reg a26l57
def a26_58 : AC := .seq a26_57 (.exit 0)
def a26_59 : AC := .seq a26_56 a26_58
def a26_60 : AC := .block 0 a26_59
def a26_61 : AC := .seq a26_2 a26_60
def a26l62 : List AOp := [oD 54 (.mv (.t 1)),
oD 55 (.sarr 1 8 (.t 5) none (some (.t 54))),
oD 56 (.b2s (.t 55)),
oD 4 (.mv (.t 56))]
def a26_62 : AC := .reg a26l62
def a26_63 : AC := .seq a26_62 .ret
def a26_64 : AC := .seq a26_61 a26_63
def a26_65 : AC := .seq a26_1 a26_64
def a26_66 : AC := .seq a26_0 a26_65
def ac_field_laid : AC := a26_66
theorem comp_field_laid : compF Tryz.prog [] (drawR Tryz.prog [] Tryz.f81.ntmps) [] 2 Tryz.f81 = some (ac_field_laid, [.t 4]) := by kernel_rfl
def U_field_laid := J oA (J (J (J (J (J (J (J @ac_field_laid.eq_1 (@mR _ _ a26_0.eq_1)) (@mR _ _ a26_1.eq_1)) (J (J (@mR _ _ a26_2.eq_1) (@mR _ _ a26_3.eq_1)) (@mU _ _ a26_4.eq_1))) (J (J (J (@mU _ _ a26_5.eq_1) (@mR _ _ a26_6.eq_1)) (@mU _ _ a26_7.eq_1)) (J (@mU _ _ a26_8.eq_1) (@mR _ _ a26_9.eq_1)))) (J (J (J (J (@mU _ _ a26_10.eq_1) (@mU _ _ a26_11.eq_1)) (@mR _ _ a26_12.eq_1)) (J (J (@mU _ _ a26_13.eq_1) (@mU _ _ a26_14.eq_1)) (@mR _ _ a26_15.eq_1))) (J (J (J (@mU _ _ a26_16.eq_1) (@mU _ _ a26_17.eq_1)) (@mR _ _ a26_18.eq_1)) (J (@mU _ _ a26_19.eq_1) (@mU _ _ a26_20.eq_1))))) (J (J (J (J (J (@mR _ _ a26_21.eq_1) (@mU _ _ a26_22.eq_1)) (@mU _ _ a26_23.eq_1)) (J (J (@mR _ _ a26_24.eq_1) (@mU _ _ a26_25.eq_1)) (@mU _ _ a26_26.eq_1))) (J (J (J (@mU _ _ a26_27.eq_1) (@mU _ _ a26_28.eq_1)) (@mU _ _ a26_29.eq_1)) (J (@mU _ _ a26_30.eq_1) (@mU _ _ a26_31.eq_1)))) (J (J (J (J (@mU _ _ a26_32.eq_1) (@mU _ _ a26_33.eq_1)) (@mU _ _ a26_34.eq_1)) (J (J (@mU _ _ a26_35.eq_1) (@mR _ _ a26_36.eq_1)) (@mU _ _ a26_37.eq_1))) (J (J (J (@mU _ _ a26_38.eq_1) (@mR _ _ a26_39.eq_1)) (@mU _ _ a26_40.eq_1)) (J (@mU _ _ a26_41.eq_1) (@mR _ _ a26_42.eq_1)))))) (J (J (J (J (J (J (@mU _ _ a26_43.eq_1) (@mU _ _ a26_44.eq_1)) (@mR _ _ a26_45.eq_1)) (J (J (@mU _ _ a26_46.eq_1) (@mU _ _ a26_47.eq_1)) (@mR _ _ a26_48.eq_1))) (J (J (J (@mU _ _ a26_49.eq_1) (@mU _ _ a26_50.eq_1)) (@mR _ _ a26_51.eq_1)) (J (@mU _ _ a26_52.eq_1) (@mU _ _ a26_53.eq_1)))) (J (J (J (J (@mR _ _ a26_54.eq_1) (@mU _ _ a26_55.eq_1)) (@mU _ _ a26_56.eq_1)) (J (J (@mR _ _ a26_57.eq_1) (@mU _ _ a26_58.eq_1)) (@mU _ _ a26_59.eq_1))) (J (J (J (@mU _ _ a26_60.eq_1) (@mU _ _ a26_61.eq_1)) (@mR _ _ a26_62.eq_1)) (J (@mU _ _ a26_63.eq_1) (@mU _ _ a26_64.eq_1))))) (J (J (J (J (J (@mU _ _ a26_65.eq_1) (@mU _ _ a26_66.eq_1)) @a26l0.eq_1) (J (J @a26l1.eq_1 @a26l2.eq_1) @a26l3.eq_1)) (J (J (J @a26l6.eq_1 @a26l9.eq_1) @a26l12.eq_1) (J @a26l15.eq_1 @a26l18.eq_1))) (J (J (J (J @a26l21.eq_1 @a26l24.eq_1) @a26l36.eq_1) (J (J @a26l39.eq_1 @a26l42.eq_1) @a26l45.eq_1)) (J (J (J @a26l48.eq_1 @a26l51.eq_1) @a26l54.eq_1) (J @a26l57.eq_1 @a26l62.eq_1))))))

/- (*strings.Builder).String -/
def a27l0 : List AOp := [oD 2 (.mv (.k (.str [])))]
def a27_0 : AC := .reg a27l0
def a27l1 : List AOp := [oD 3 (.mv (.t 0)),
oD 4 (.nilck (.t 3)),
oD 5 (.faddr 1 (.t 4)),
oD 6 (.load none (.t 5)),
oD 7 (.usd (.t 6)),
oD 8 (.mv (.t 0)),
oD 9 (.nilck (.t 8)),
oD 10 (.faddr 1 (.t 9)),
oD 11 (.load none (.t 10)),
oD 12 (.len (.t 11)),
oD 13 (.ust 5 (.t 7) (.t 12)),
oD 2 (.mv (.t 13))]
def a27_1 : AC := .dreg 0 a27l1
def a27_2 : AC := .seq a27_1 .ret
def a27_3 : AC := .seq a27_0 a27_2
def ac_strings_Builder_String : AC := a27_3
theorem comp_strings_Builder_String : compF Tryz.prog [] (drawR Tryz.prog [] Tryz.f82.ntmps) [] 1 Tryz.f82 = some (ac_strings_Builder_String, [.t 2]) := by kernel_rfl
def U_strings_Builder_String := J oA (J (J (J @ac_strings_Builder_String.eq_1 (@mR _ _ a27_0.eq_1)) (J (@mD _ _ _ a27_1.eq_1) (@mU _ _ a27_2.eq_1))) (J (J (@mU _ _ a27_3.eq_1) @a27l0.eq_1) @a27l1.eq_1))

/- cmp.isNaN[int] -/
def a28l0 : List AOp := [oD 2 (.mv (.k (.bool false)))]
def a28_0 : AC := .reg a28l0
def a28l1 : List AOp := [oD 3 (.mv (.t 0)),
oD 4 (.mv (.t 0)),
oD 5 (.bin .neq (.t 3) (.t 4)),
oD 2 (.mv (.t 5))]
def a28_1 : AC := .reg a28l1
def a28_2 : AC := .seq a28_1 .ret
def a28_3 : AC := .seq a28_0 a28_2
def ac_cmp_isNaN_int : AC := a28_3
theorem comp_cmp_isNaN_int : compF Tryz.prog [] (drawR Tryz.prog [] Tryz.f87.ntmps) [] 1 Tryz.f87 = some (ac_cmp_isNaN_int, [.t 2]) := by kernel_rfl
def U_cmp_isNaN_int := J oA (J (J (J @ac_cmp_isNaN_int.eq_1 (@mR _ _ a28_0.eq_1)) (J (@mR _ _ a28_1.eq_1) (@mU _ _ a28_2.eq_1))) (J (J (@mU _ _ a28_3.eq_1) @a28l0.eq_1) @a28l1.eq_1))

/- scoria/wear.Count -/
def a29l0 : List AOp := [oD 4 (.mv (.k (.int .i64 0)))]
def a29_0 : AC := .reg a29l0
def a29l1 : List AOp := [oD 5 (.mv (.k (.int .i64 0)))]
def a29_1 : AC := .reg a29l1
def a29l2 : List AOp := [oD 8 (.mv (.t 0)),
oD 9 (.len (.t 8)),
oD 10 (.mv (.k (.int .i64 0)))]
def a29_2 : AC := .reg a29l2
def a29l3 : List AOp := [oD 11 (.bin .lss (.t 10) (.t 9))]
def a29_3 : AC := .reg a29l3
def a29_4 : AC := .cond (.t 11) .skip (.exit 0)
def a29l5 : List AOp := [oD 12 (.isl 3 (.t 8) (.t 10)),
oD 13 (.load (some 3) (.t 12)),
oD 7 (.alloc [(.int .i64 0), (.int .i64 0), (.int .i64 0)]),
oN (.store 3 (.t 7) (.t 13))]
def a29_5 : AC := .reg a29l5
def a29l6 : List AOp := [oD 14 (.faddr 0 (.t 7)),
oD 15 (.load none (.t 14)),
oD 16 (.mv (.t 1)),
oD 17 (.bin .eql (.t 15) (.t 16))]
def a29_6 : AC := .reg a29l6
def a29l7 : List AOp := [oD 18 (.mv (.t 5)),
oD 19 (.bin .add (.t 18) (.k (.int .i64 1))),
oD 5 (.mv (.t 19))]
def a29_7 : AC := .reg a29l7
def a29_8 : AC := .cond (.t 17) a29_7 .skip
def a29_9 : AC := .seq a29_6 a29_8
def a29_10 : AC := .seq a29_5 a29_9
def a29_11 : AC := .block 1 a29_10
def a29l12 : List AOp := [oD 20 (.bin .add (.t 10) (.k (.int .i64 1))),
oD 10 (.mv (.t 20))]
def a29_12 : AC := .reg a29l12
def a29_13 : AC := .seq a29_11 a29_12
def a29_14 : AC := .seq a29_4 a29_13
def a29_15 : AC := .seq a29_3 a29_14
def a29_16 : AC := .loop [1, 5, 8, 9, 10] 0 a29_15
def a29_17 : AC := .block 0 a29_16
def a29_18 : AC := .seq a29_2 a29_17
def a29l19 : List AOp := [oD 21 (.mv (.t 5)),
oD 4 (.mv (.t 21))]
def a29_19 : AC := .reg a29l19
def a29_20 : AC := .seq a29_19 .ret
def a29_21 : AC := .seq a29_18 a29_20
def a29_22 : AC := .seq a29_1 a29_21
def a29_23 : AC := .seq a29_0 a29_22
def ac_wear_Count : AC := a29_23
theorem comp_wear_Count : compF Tryz.prog [] (drawR Tryz.prog [] Tryz.f102.ntmps) [([1, 5, 8, 9, 10], 0)] 2 Tryz.f102 = some (ac_wear_Count, [.t 4]) := by kernel_rfl
def U_wear_Count := J oA (J (J (J (J (J (J @ac_wear_Count.eq_1 (@mR _ _ a29_0.eq_1)) (@mR _ _ a29_1.eq_1)) (J (@mR _ _ a29_2.eq_1) (@mR _ _ a29_3.eq_1))) (J (J (@mU _ _ a29_4.eq_1) (@mR _ _ a29_5.eq_1)) (J (@mR _ _ a29_6.eq_1) (@mR _ _ a29_7.eq_1)))) (J (J (J (@mU _ _ a29_8.eq_1) (@mU _ _ a29_9.eq_1)) (J (@mU _ _ a29_10.eq_1) (@mU _ _ a29_11.eq_1))) (J (J (@mR _ _ a29_12.eq_1) (@mU _ _ a29_13.eq_1)) (J (@mU _ _ a29_14.eq_1) (@mU _ _ a29_15.eq_1))))) (J (J (J (J (J (@mU _ _ a29_16.eq_1) (@mU _ _ a29_17.eq_1)) (@mU _ _ a29_18.eq_1)) (J (@mR _ _ a29_19.eq_1) (@mU _ _ a29_20.eq_1))) (J (J (@mU _ _ a29_21.eq_1) (@mU _ _ a29_22.eq_1)) (J (@mU _ _ a29_23.eq_1) @a29l0.eq_1))) (J (J (J @a29l1.eq_1 @a29l2.eq_1) (J @a29l3.eq_1 @a29l5.eq_1)) (J (J @a29l6.eq_1 @a29l7.eq_1) (J @a29l12.eq_1 @a29l19.eq_1)))))

/- scoria/check.Sum -/
def a30l0 : List AOp := [oD 2 (.mv (.k (.int .u32 0)))]
def a30_0 : AC := .reg a30l0
def a30l1 : List AOp := [oD 3 (.mv (.t 0)),
oD 4 (.call false 145 [(.k (.int .u32 0)), (.t 3)]),
oD 2 (.mv (.t 4))]
def a30_1 : AC := .reg a30l1
def a30_2 : AC := .seq a30_1 .ret
def a30_3 : AC := .seq a30_0 a30_2
def ac_check_Sum : AC := a30_3
theorem comp_check_Sum : compF Tryz.prog [] (drawR Tryz.prog [] Tryz.f108.ntmps) [] 1 Tryz.f108 = some (ac_check_Sum, [.t 2]) := by kernel_rfl
def U_check_Sum := J oA (J (J (J @ac_check_Sum.eq_1 (@mR _ _ a30_0.eq_1)) (J (@mR _ _ a30_1.eq_1) (@mU _ _ a30_2.eq_1))) (J (J (@mU _ _ a30_3.eq_1) @a30l0.eq_1) @a30l1.eq_1))

/- slices.IndexFunc[[]int,int] -/
def a31l0 : List AOp := [oD 4 (.mv (.k (.int .i64 0)))]
def a31_0 : AC := .reg a31l0
def a31l1 : List AOp := [oD 6 (.mv (.t 0)),
oD 7 (.len (.t 6)),
oD 8 (.mv (.k (.int .i64 0)))]
def a31_1 : AC := .reg a31l1
def a31l2 : List AOp := [oD 9 (.bin .lss (.t 8) (.t 7))]
def a31_2 : AC := .reg a31l2
def a31_3 : AC := .cond (.t 9) .skip (.exit 0)
def a31l4 : List AOp := [oD 10 (.mv (.t 8)),
oD 5 (.mv (.t 10))]
def a31_4 : AC := .reg a31l4
def a31l5 : List AOp := [oD 11 (.mv (.t 1)),
oD 12 (.mv (.t 0)),
oD 13 (.mv (.t 5)),
oD 14 (.isl 1 (.t 12) (.t 13)),
oD 15 (.load none (.t 14)),
oD 16 (.callv (.t 11) [(.t 15)])]
def a31_5 : AC := .reg a31l5
def a31l6 : List AOp := [oD 17 (.mv (.t 5)),
oD 4 (.mv (.t 17))]
def a31_6 : AC := .reg a31l6
def a31_7 : AC := .seq a31_6 .ret
def a31_8 : AC := .cond (.t 16) a31_7 .skip
def a31_9 : AC := .seq a31_5 a31_8
def a31_10 : AC := .seq a31_4 a31_9
def a31_11 : AC := .block 1 a31_10
def a31l12 : List AOp := [oD 18 (.bin .add (.t 8) (.k (.int .i64 1))),
oD 8 (.mv (.t 18))]
def a31_12 : AC := .reg a31l12
def a31_13 : AC := .seq a31_11 a31_12
def a31_14 : AC := .seq a31_3 a31_13
def a31_15 : AC := .seq a31_2 a31_14
def a31_16 : AC := .loop [0, 1, 7, 8] 0 a31_15
def a31_17 : AC := .block 0 a31_16
def a31_18 : AC := .seq a31_1 a31_17
def a31l19 : List AOp := [oD 4 (.mv (.k (.int .i64 (-1))))]
def a31_19 : AC := .reg a31l19
def a31_20 : AC := .seq a31_19 .ret
def a31_21 : AC := .seq a31_18 a31_20
def a31_22 : AC := .seq a31_0 a31_21
def ac_slices_IndexFunc_int : AC := a31_22
theorem comp_slices_IndexFunc_int : compF Tryz.prog [] (drawR Tryz.prog [] Tryz.f115.ntmps) [([0, 1, 7, 8], 0)] 2 Tryz.f115 = some (ac_slices_IndexFunc_int, [.t 4]) := by kernel_rfl
def U_slices_IndexFunc_int := J oA (J (J (J (J (J @ac_slices_IndexFunc_int.eq_1 (@mR _ _ a31_0.eq_1)) (J (@mR _ _ a31_1.eq_1) (@mR _ _ a31_2.eq_1))) (J (J (@mU _ _ a31_3.eq_1) (@mR _ _ a31_4.eq_1)) (J (@mR _ _ a31_5.eq_1) (@mR _ _ a31_6.eq_1)))) (J (J (J (@mU _ _ a31_7.eq_1) (@mU _ _ a31_8.eq_1)) (J (@mU _ _ a31_9.eq_1) (@mU _ _ a31_10.eq_1))) (J (J (@mU _ _ a31_11.eq_1) (@mR _ _ a31_12.eq_1)) (J (@mU _ _ a31_13.eq_1) (@mU _ _ a31_14.eq_1))))) (J (J (J (J (@mU _ _ a31_15.eq_1) (@mU _ _ a31_16.eq_1)) (J (@mU _ _ a31_17.eq_1) (@mU _ _ a31_18.eq_1))) (J (J (@mR _ _ a31_19.eq_1) (@mU _ _ a31_20.eq_1)) (J (@mU _ _ a31_21.eq_1) (@mU _ _ a31_22.eq_1)))) (J (J (J @a31l0.eq_1 @a31l1.eq_1) (J @a31l2.eq_1 @a31l4.eq_1)) (J (J @a31l5.eq_1 @a31l6.eq_1) (J @a31l12.eq_1 @a31l19.eq_1)))))

/- scoria/field.width -/
def a32l0 : List AOp := [oD 2 (.mv (.k (.bool false)))]
def a32_0 : AC := .reg a32l0
def a32l1 : List AOp := [oD 3 (.mv (.t 0)),
oD 4 (.bin .geq (.t 3) (.k (.int .i64 1))),
oD 5 (.mv (.t 4)),
oG 6 (.mv (.t 0)) 5 true,
oG 7 (.bin .leq (.t 6) (.k (.int .i64 8))) 5 true,
oD 8 (.pick (.t 5) (.t 7) (.k (.bool false))),
oD 2 (.mv (.t 8))]
def a32_1 : AC := .reg a32l1
def a32_2 : AC := .seq a32_1 .ret
def a32_3 : AC := .seq a32_0 a32_2
def ac_field_width : AC := a32_3
theorem comp_field_width : compF Tryz.prog [] (drawR Tryz.prog [] Tryz.f116.ntmps) [] 1 Tryz.f116 = some (ac_field_width, [.t 2]) := by kernel_rfl
def U_field_width := J oA (J (J (J @ac_field_width.eq_1 (@mR _ _ a32_0.eq_1)) (J (@mR _ _ a32_1.eq_1) (@mU _ _ a32_2.eq_1))) (J (J (@mU _ _ a32_3.eq_1) @a32l0.eq_1) @a32l1.eq_1))

/- scoria/check.More -/
def a34l0 : List AOp := [oD 4 (.mv (.k (.int .u32 0)))]
def a34_0 : AC := .reg a34l0
def a34l1 : List AOp := [oD 7 (.mv (.t 0)),
oD 8 (.un .xor (.t 7)),
oD 5 (.mv (.t 8))]
def a34_1 : AC := .reg a34l1
def a34l2 : List AOp := [oD 9 (.mv (.t 1)),
oD 10 (.lens (.t 9)),
oD 11 (.mv (.k (.int .i64 0)))]
def a34_2 : AC := .reg a34l2
def a34l3 : List AOp := [oD 12 (.bin .lss (.t 11) (.t 10))]
def a34_3 : AC := .reg a34l3
def a34_4 : AC := .cond (.t 12) .skip (.exit 0)
def a34l5 : List AOp := [oD 13 (.mv (.t 11)),
oD 6 (.mv (.t 13))]
def a34_5 : AC := .reg a34l5
def a34l6 : List AOp := [oD 14 (.mv (.t 5)),
oD 15 (.mv (.t 1)),
oD 16 (.mv (.t 6)),
oD 17 (.idxs (.t 15) (.t 16)),
oD 18 (.call false 172 [(.t 14), (.t 17)]),
oD 5 (.mv (.t 18))]
def a34_6 : AC := .reg a34l6
def a34_7 : AC := .seq a34_5 a34_6
def a34_8 : AC := .block 1 a34_7
def a34l9 : List AOp := [oD 19 (.bin .add (.t 11) (.k (.int .i64 1))),
oD 11 (.mv (.t 19))]
def a34_9 : AC := .reg a34l9
def a34_10 : AC := .seq a34_8 a34_9
def a34_11 : AC := .seq a34_4 a34_10
def a34_12 : AC := .seq a34_3 a34_11
def a34_13 : AC := .loop [1, 5, 10, 11] 0 a34_12
def a34_14 : AC := .block 0 a34_13
def a34_15 : AC := .seq a34_2 a34_14
def a34l16 : List AOp := [oD 20 (.mv (.t 5)),
oD 21 (.un .xor (.t 20)),
oD 4 (.mv (.t 21))]
def a34_16 : AC := .reg a34l16
def a34_17 : AC := .seq a34_16 .ret
def a34_18 : AC := .seq a34_15 a34_17
def a34_19 : AC := .seq a34_1 a34_18
def a34_20 : AC := .seq a34_0 a34_19
def ac_check_More : AC := a34_20
theorem comp_check_More : compF Tryz.prog [] (drawR Tryz.prog [] Tryz.f145.ntmps) [([1, 5, 10, 11], 0)] 2 Tryz.f145 = some (ac_check_More, [.t 4]) := by kernel_rfl
def U_check_More := J oA (J (J (J (J (J @ac_check_More.eq_1 (@mR _ _ a34_0.eq_1)) (J (@mR _ _ a34_1.eq_1) (@mR _ _ a34_2.eq_1))) (J (J (@mR _ _ a34_3.eq_1) (@mU _ _ a34_4.eq_1)) (J (@mR _ _ a34_5.eq_1) (@mR _ _ a34_6.eq_1)))) (J (J (J (@mU _ _ a34_7.eq_1) (@mU _ _ a34_8.eq_1)) (J (@mR _ _ a34_9.eq_1) (@mU _ _ a34_10.eq_1))) (J (J (@mU _ _ a34_11.eq_1) (@mU _ _ a34_12.eq_1)) (@mU _ _ a34_13.eq_1)))) (J (J (J (J (@mU _ _ a34_14.eq_1) (@mU _ _ a34_15.eq_1)) (J (@mR _ _ a34_16.eq_1) (@mU _ _ a34_17.eq_1))) (J (J (@mU _ _ a34_18.eq_1) (@mU _ _ a34_19.eq_1)) (J (@mU _ _ a34_20.eq_1) @a34l0.eq_1))) (J (J (J @a34l1.eq_1 @a34l2.eq_1) (J @a34l3.eq_1 @a34l5.eq_1)) (J (J @a34l6.eq_1 @a34l9.eq_1) @a34l16.eq_1))))

/- scoria/wear.Pick -/
def a35l0 : List AOp := [oD 2 (.mv (.k (.int .i64 0)))]
def a35_0 : AC := .reg a35l0
def a35l1 : List AOp := [oD 3 (.mv (.t 0)),
oD 4 (.call false 174 [(.k (.int .i64 0))]),
oD 5 (.call false 173 [(.t 3), (.t 4), (.k (.fn (.func 175) [] []))]),
oD 2 (.mv (.t 5))]
def a35_1 : AC := .reg a35l1
def a35_2 : AC := .seq a35_1 .ret
def a35_3 : AC := .seq a35_0 a35_2
def ac_wear_Pick : AC := a35_3
theorem comp_wear_Pick : compF Tryz.prog [] (drawR Tryz.prog [] Tryz.f150.ntmps) [] 1 Tryz.f150 = some (ac_wear_Pick, [.t 2]) := by kernel_rfl
def U_wear_Pick := J oA (J (J (J @ac_wear_Pick.eq_1 (@mR _ _ a35_0.eq_1)) (J (@mR _ _ a35_1.eq_1) (@mU _ _ a35_2.eq_1))) (J (J (@mU _ _ a35_3.eq_1) @a35l0.eq_1) @a35l1.eq_1))

/- scoria/geom.First -/
def a36l0 : List AOp := [oD 2 (.box (.t 0)),
oD 4 (.mv (.k (.int .i64 0)))]
def a36_0 : AC := .reg a36l0
def a36l1 : List AOp := [oD 5 (.load (some 2) (.t 2)),
oD 6 (.call false 72 [(.t 5)]),
oD 7 (.bin .neq (.t 6) (.k (.int .i64 0))),
oD 8 (.mv (.t 7)),
oG 9 (.mv (.t 1)) 8 false,
oG 10 (.bin .lss (.t 9) (.k (.int .i64 0))) 8 false,
oD 11 (.pick (.t 8) (.k (.bool true)) (.t 10)),
oD 12 (.mv (.t 11)),
oG 13 (.mv (.t 1)) 12 false,
oG 14 (.faddr 0 (.t 2)) 12 false,
oG 15 (.load none (.t 14)) 12 false,
oG 16 (.bin .geq (.t 13) (.t 15)) 12 false,
oD 17 (.pick (.t 12) (.k (.bool true)) (.t 16))]
def a36_1 : AC := .reg a36l1
def a36l2 : List AOp := [oD 4 (.mv (.k (.int .i64 (-1))))]
def a36_2 : AC := .reg a36l2
def a36_3 : AC := .seq a36_2 .ret
def a36_4 : AC := .cond (.t 17) a36_3 .skip
def a36_5 : AC := .seq a36_1 a36_4
def a36l6 : List AOp := [oD 18 (.mv (.t 1)),
oD 19 (.faddr 1 (.t 2)),
oD 20 (.load none (.t 19)),
oD 21 (.bin .mul (.t 18) (.t 20)),
oD 4 (.mv (.t 21))]
def a36_6 : AC := .reg a36l6
def a36_7 : AC := .seq a36_6 .ret
def a36_8 : AC := .seq a36_5 a36_7
def a36_9 : AC := .seq a36_0 a36_8
def ac_geom_First : AC := a36_9
theorem comp_geom_First : compF Tryz.prog [] (drawR Tryz.prog [] Tryz.f151.ntmps) [] 2 Tryz.f151 = some (ac_geom_First, [.t 4]) := by kernel_rfl
def U_geom_First := J oA (J (J (J (J @ac_geom_First.eq_1 (@mR _ _ a36_0.eq_1)) (J (@mR _ _ a36_1.eq_1) (@mR _ _ a36_2.eq_1))) (J (J (@mU _ _ a36_3.eq_1) (@mU _ _ a36_4.eq_1)) (J (@mU _ _ a36_5.eq_1) (@mR _ _ a36_6.eq_1)))) (J (J (J (@mU _ _ a36_7.eq_1) (@mU _ _ a36_8.eq_1)) (J (@mU _ _ a36_9.eq_1) @a36l0.eq_1)) (J (J @a36l1.eq_1 @a36l2.eq_1) @a36l6.eq_1)))

/- scoria/check.next -/
def a37l0 : List AOp := [oD 4 (.mv (.k (.int .u32 0)))]
def a37_0 : AC := .reg a37l0
def a37l1 : List AOp := [oD 5 (.mv (.t 0)),
oD 6 (.mv (.t 1)),
oD 7 (.conv .u32 (.t 6)),
oD 8 (.bin .shl (.t 7) (.k (.int .u64 24))),
oD 9 (.bin .xor (.t 5) (.t 8)),
oD 0 (.mv (.t 9))]
def a37_1 : AC := .reg a37l1
def a37l2 : List AOp := [oD 10 (.mv (.k (.int .i64 0)))]
def a37_2 : AC := .reg a37l2
def a37l3 : List AOp := [oD 11 (.bin .lss (.t 10) (.k (.int .i64 8)))]
def a37_3 : AC := .reg a37l3
def a37_4 : AC := .cond (.t 11) .skip (.exit 0)
def a37l5 : List AOp := [oD 12 (.mv (.t 0)),
oD 13 (.bin .shr (.t 12) (.k (.int .u64 31))),
oD 14 (.bin .eql (.t 13) (.k (.int .u32 1)))]
def a37_5 : AC := .reg a37l5
def a37l6 : List AOp := [oD 15 (.mv (.t 0)),
oD 16 (.bin .shl (.t 15) (.k (.int .u64 1))),
oD 17 (.bin .xor (.t 16) (.k (.int .u32 79764919))),
oD 0 (.mv (.t 17))]
def a37_6 : AC := .reg a37l6
def a37l7 : List AOp := [oD 18 (.mv (.t 0)),
oD 19 (.bin .shl (.t 18) (.k (.int .u64 1))),
oD 0 (.mv (.t 19))]
def a37_7 : AC := .reg a37l7
def a37_8 : AC := .cond (.t 14) a37_6 a37_7
def a37_9 : AC := .seq a37_5 a37_8
def a37_10 : AC := .block 1 a37_9
def a37l11 : List AOp := [oD 20 (.bin .add (.t 10) (.k (.int .i64 1))),
oD 10 (.mv (.t 20))]
def a37_11 : AC := .reg a37l11
def a37_12 : AC := .seq a37_10 a37_11
def a37_13 : AC := .seq a37_4 a37_12
def a37_14 : AC := .seq a37_3 a37_13
def a37_15 : AC := .loop [0, 10] 0 a37_14
def a37_16 : AC := .block 0 a37_15
def a37_17 : AC := .seq a37_2 a37_16
def a37l18 : List AOp := [oD 21 (.mv (.t 0)),
oD 4 (.mv (.t 21))]
def a37_18 : AC := .reg a37l18
def a37_19 : AC := .seq a37_18 .ret
def a37_20 : AC := .seq a37_17 a37_19
def a37_21 : AC := .seq a37_1 a37_20
def a37_22 : AC := .seq a37_0 a37_21
def ac_check_next : AC := a37_22
theorem comp_check_next : compF Tryz.prog [] (drawR Tryz.prog [] Tryz.f172.ntmps) [([0, 10], 0)] 2 Tryz.f172 = some (ac_check_next, [.t 4]) := by kernel_rfl
def U_check_next := J oA (J (J (J (J (J (J @ac_check_next.eq_1 (@mR _ _ a37_0.eq_1)) (@mR _ _ a37_1.eq_1)) (J (@mR _ _ a37_2.eq_1) (@mR _ _ a37_3.eq_1))) (J (J (@mU _ _ a37_4.eq_1) (@mR _ _ a37_5.eq_1)) (J (@mR _ _ a37_6.eq_1) (@mR _ _ a37_7.eq_1)))) (J (J (J (@mU _ _ a37_8.eq_1) (@mU _ _ a37_9.eq_1)) (J (@mU _ _ a37_10.eq_1) (@mR _ _ a37_11.eq_1))) (J (J (@mU _ _ a37_12.eq_1) (@mU _ _ a37_13.eq_1)) (J (@mU _ _ a37_14.eq_1) (@mU _ _ a37_15.eq_1))))) (J (J (J (J (@mU _ _ a37_16.eq_1) (@mU _ _ a37_17.eq_1)) (J (@mR _ _ a37_18.eq_1) (@mU _ _ a37_19.eq_1))) (J (J (@mU _ _ a37_20.eq_1) (@mU _ _ a37_21.eq_1)) (J (@mU _ _ a37_22.eq_1) @a37l0.eq_1))) (J (J (J @a37l1.eq_1 @a37l2.eq_1) (J @a37l3.eq_1 @a37l5.eq_1)) (J (J @a37l6.eq_1 @a37l7.eq_1) (J @a37l11.eq_1 @a37l18.eq_1)))))

/- scoria/wear.least[scoria/api.Block] -/
def a38l0 : List AOp := [oD 6 (.mv (.k (.int .i64 0)))]
def a38_0 : AC := .reg a38l0
def a38l1 : List AOp := [oD 7 (.mv (.k (.int .i64 (-1))))]
def a38_1 : AC := .reg a38l1
def a38l2 : List AOp := [oD 10 (.mv (.t 0)),
oD 11 (.len (.t 10)),
oD 12 (.mv (.k (.int .i64 0)))]
def a38_2 : AC := .reg a38l2
def a38l3 : List AOp := [oD 13 (.bin .lss (.t 12) (.t 11))]
def a38_3 : AC := .reg a38l3
def a38_4 : AC := .cond (.t 13) .skip (.exit 0)
def a38l5 : List AOp := [oD 14 (.mv (.t 12)),
oD 15 (.isl 3 (.t 10) (.t 12)),
oD 16 (.load (some 3) (.t 15)),
oD 9 (.alloc [(.int .i64 0), (.int .i64 0), (.int .i64 0)]),
oD 8 (.mv (.t 14)),
oN (.store 3 (.t 9) (.t 16))]
def a38_5 : AC := .reg a38l5
def a38l6 : List AOp := [oD 17 (.mv (.t 1)),
oD 18 (.load (some 3) (.t 9)),
oD 19 (.callv (.t 17) [(.t 18)]),
oD 20 (.mv (.t 19)),
oG 21 (.mv (.t 7)) 20 true,
oG 22 (.bin .lss (.t 21) (.k (.int .i64 0))) 20 true,
oG 23 (.mv (.t 22)) 20 true,
oG 24 (.mv (.t 2)) 23 false,
oG 25 (.load (some 3) (.t 9)) 23 false,
oG 26 (.mv (.t 0)) 23 false,
oG 27 (.mv (.t 7)) 23 false,
oG 28 (.isl 3 (.t 26) (.t 27)) 23 false,
oG 29 (.load (some 3) (.t 28)) 23 false,
oG 30 (.callv (.t 24) [(.t 25), (.t 29)]) 23 false,
oG 31 (.bin .lss (.t 30) (.k (.int .i64 0))) 23 false,
oG 32 (.pick (.t 23) (.k (.bool true)) (.t 31)) 20 true,
oD 33 (.pick (.t 20) (.t 32) (.k (.bool false)))]
def a38_6 : AC := .dreg 0 a38l6
def a38l7 : List AOp := [oD 34 (.mv (.t 8)),
oD 7 (.mv (.t 34))]
def a38_7 : AC := .reg a38l7
def a38_8 : AC := .cond (.t 33) a38_7 .skip
def a38_9 : AC := .seq a38_6 a38_8
def a38_10 : AC := .seq a38_5 a38_9
def a38_11 : AC := .block 1 a38_10
def a38l12 : List AOp := [oD 35 (.bin .add (.t 12) (.k (.int .i64 1))),
oD 12 (.mv (.t 35))]
def a38_12 : AC := .reg a38l12
def a38_13 : AC := .seq a38_11 a38_12
def a38_14 : AC := .seq a38_4 a38_13
def a38_15 : AC := .seq a38_3 a38_14
def a38_16 : AC := .loop [0, 1, 2, 7, 10, 11, 12] 0 a38_15
def a38_17 : AC := .block 0 a38_16
def a38_18 : AC := .seq a38_2 a38_17
def a38l19 : List AOp := [oD 36 (.mv (.t 7)),
oD 6 (.mv (.t 36))]
def a38_19 : AC := .reg a38l19
def a38_20 : AC := .seq a38_19 .ret
def a38_21 : AC := .seq a38_18 a38_20
def a38_22 : AC := .seq a38_1 a38_21
def a38_23 : AC := .seq a38_0 a38_22
def ac_wear_least_api_Block : AC := a38_23
theorem comp_wear_least_api_Block : compF Tryz.prog [] (drawR Tryz.prog [] Tryz.f173.ntmps) [([0, 1, 2, 7, 10, 11, 12], 0)] 3 Tryz.f173 = some (ac_wear_least_api_Block, [.t 6]) := by kernel_rfl
def U_wear_least_api_Block := J oA (J (J (J (J (J (J @ac_wear_least_api_Block.eq_1 (@mR _ _ a38_0.eq_1)) (@mR _ _ a38_1.eq_1)) (J (@mR _ _ a38_2.eq_1) (@mR _ _ a38_3.eq_1))) (J (J (@mU _ _ a38_4.eq_1) (@mR _ _ a38_5.eq_1)) (J (@mD _ _ _ a38_6.eq_1) (@mR _ _ a38_7.eq_1)))) (J (J (J (@mU _ _ a38_8.eq_1) (@mU _ _ a38_9.eq_1)) (J (@mU _ _ a38_10.eq_1) (@mU _ _ a38_11.eq_1))) (J (J (@mR _ _ a38_12.eq_1) (@mU _ _ a38_13.eq_1)) (J (@mU _ _ a38_14.eq_1) (@mU _ _ a38_15.eq_1))))) (J (J (J (J (J (@mU _ _ a38_16.eq_1) (@mU _ _ a38_17.eq_1)) (@mU _ _ a38_18.eq_1)) (J (@mR _ _ a38_19.eq_1) (@mU _ _ a38_20.eq_1))) (J (J (@mU _ _ a38_21.eq_1) (@mU _ _ a38_22.eq_1)) (J (@mU _ _ a38_23.eq_1) @a38l0.eq_1))) (J (J (J @a38l1.eq_1 @a38l2.eq_1) (J @a38l3.eq_1 @a38l5.eq_1)) (J (J @a38l6.eq_1 @a38l7.eq_1) (J @a38l12.eq_1 @a38l19.eq_1)))))

/- scoria/wear.is -/
def a39l0 : List AOp := [oD 1 (.box (.t 0)),
oD 2 (.mv (.k .nilf))]
def a39_0 : AC := .reg a39l0
def a39l1 : List AOp := [oD 3 (.mkfn (.func 189) [] [(.t 1)]),
oD 2 (.mv (.t 3))]
def a39_1 : AC := .reg a39l1
def a39_2 : AC := .seq a39_1 .ret
def a39_3 : AC := .seq a39_0 a39_2
def ac_wear_is : AC := a39_3
theorem comp_wear_is : compF Tryz.prog [] (drawR Tryz.prog [] Tryz.f174.ntmps) [] 1 Tryz.f174 = some (ac_wear_is, [.t 2]) := by kernel_rfl
def U_wear_is := J oA (J (J (J @ac_wear_is.eq_1 (@mR _ _ a39_0.eq_1)) (J (@mR _ _ a39_1.eq_1) (@mU _ _ a39_2.eq_1))) (J (J (@mU _ _ a39_3.eq_1) @a39l0.eq_1) @a39l1.eq_1))

/- scoria/wear.byWorn -/
def a40l0 : List AOp := [oD 2 (.box (.t 0)),
oD 3 (.box (.t 1)),
oD 4 (.mv (.k (.int .i64 0)))]
def a40_0 : AC := .reg a40l0
def a40l1 : List AOp := [oD 5 (.load (some 3) (.t 2)),
oD 6 (.call false 190 [(.t 5)]),
oD 7 (.load (some 3) (.t 3)),
oD 8 (.call false 190 [(.t 7)]),
oD 9 (.call false 50 [(.t 6), (.t 8)]),
oD 4 (.mv (.t 9))]
def a40_1 : AC := .dreg 0 a40l1
def a40_2 : AC := .seq a40_1 .ret
def a40_3 : AC := .seq a40_0 a40_2
def ac_wear_byWorn : AC := a40_3
theorem comp_wear_byWorn : compF Tryz.prog [] (drawR Tryz.prog [] Tryz.f175.ntmps) [] 2 Tryz.f175 = some (ac_wear_byWorn, [.t 4]) := by kernel_rfl
def U_wear_byWorn := J oA (J (J (J @ac_wear_byWorn.eq_1 (@mR _ _ a40_0.eq_1)) (J (@mD _ _ _ a40_1.eq_1) (@mU _ _ a40_2.eq_1))) (J (J (@mU _ _ a40_3.eq_1) @a40l0.eq_1) @a40l1.eq_1))

/- scoria/wear.is$1 -/
def a41l0 : List AOp := [oD 2 (.box (.t 0)),
oD 3 (.mv (.k (.bool false)))]
def a41_0 : AC := .reg a41l0
def a41l1 : List AOp := [oD 4 (.faddr 0 (.t 2)),
oD 5 (.load none (.t 4)),
oD 6 (.load none (.t 1)),
oD 7 (.bin .eql (.t 5) (.t 6)),
oD 3 (.mv (.t 7))]
def a41_1 : AC := .reg a41l1
def a41_2 : AC := .seq a41_1 .ret
def a41_3 : AC := .seq a41_0 a41_2
def ac_wear_is_c1 : AC := a41_3
theorem comp_wear_is_c1 : compF Tryz.prog [] (drawR Tryz.prog [] Tryz.f189.ntmps) [] 2 Tryz.f189 = some (ac_wear_is_c1, [.t 3]) := by kernel_rfl
def U_wear_is_c1 := J oA (J (J (J @ac_wear_is_c1.eq_1 (@mR _ _ a41_0.eq_1)) (J (@mR _ _ a41_1.eq_1) (@mU _ _ a41_2.eq_1))) (J (J (@mU _ _ a41_3.eq_1) @a41l0.eq_1) @a41l1.eq_1))

/- scoria/wear.worn -/
def a42l0 : List AOp := [oD 1 (.box (.t 0)),
oD 2 (.mv (.k (.int .i64 0)))]
def a42_0 : AC := .reg a42l0
def a42l1 : List AOp := [oD 3 (.faddr 2 (.t 1)),
oD 4 (.load none (.t 3)),
oD 5 (.mm true [(.t 4), (.k (.int .i64 0))]),
oD 2 (.mv (.t 5))]
def a42_1 : AC := .reg a42l1
def a42_2 : AC := .seq a42_1 .ret
def a42_3 : AC := .seq a42_0 a42_2
def ac_wear_worn : AC := a42_3
theorem comp_wear_worn : compF Tryz.prog [] (drawR Tryz.prog [] Tryz.f190.ntmps) [] 1 Tryz.f190 = some (ac_wear_worn, [.t 2]) := by kernel_rfl
def U_wear_worn := J oA (J (J (J @ac_wear_worn.eq_1 (@mR _ _ a42_0.eq_1)) (J (@mR _ _ a42_1.eq_1) (@mU _ _ a42_2.eq_1))) (J (J (@mU _ _ a42_3.eq_1) @a42l0.eq_1) @a42l1.eq_1))

end Go.Proofs.YtdgpiobmncohjaaGreatDoor.Aw
