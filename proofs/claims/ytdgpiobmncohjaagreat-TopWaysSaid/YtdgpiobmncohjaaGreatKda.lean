/-
  The functions of the seat, translated to abstract code. Written by a program (wip/Gen2.lean).
-/
import Derived.Test.YtdgpiobmncohjaaGreatAwBun
import Derived.Test.YtdgpiobmncohjaaGreatProg
set_option maxRecDepth 100000
set_option linter.all false
namespace Go.Proofs.YtdgpiobmncohjaaGreat.Aw
open Go.RowKit
theorem J {a b : Prop} (x : a) (y : b) : a ∧ b := ⟨x, y⟩
def oD (d : Nat) (x : AO) : AOp := ⟨some d, x, none, none, [], none⟩
def oN (x : AO) : AOp := ⟨none, x, none, none, [], none⟩
def oG (d : Nat) (x : AO) (g : Nat) (b : Bool) : AOp := ⟨some d, x, some (g, b), none, [], none⟩
theorem oD_eq {d x} : oD d x = ⟨some d, x, none, none, [], none⟩ := nr rfl
theorem oN_eq {x} : oN x = ⟨none, x, none, none, [], none⟩ := nr rfl
theorem oG_eq {d x g b} : oG d x g b = ⟨some d, x, some (g, b), none, [], none⟩ := nr rfl
theorem oA : (∀ d x, oD d x = ⟨some d, x, none, none, [], none⟩) ∧ (∀ x, oN x = ⟨none, x, none, none, [], none⟩) ∧ ∀ d x g b, oG d x g b = ⟨some d, x, some (g, b), none, [], none⟩ := ⟨fun _ _ => oD_eq, fun _ => oN_eq, fun _ _ _ _ => oG_eq⟩
namespace Ar
/- slices.Concat[[]scoria/api.Ext,scoria/api.Ext] -/
def a0l0 : List AOp := [oD 2 (.mv (.k (.slc [])))]
def a0_0 : AC := .reg a0l0
def a0l1 : List AOp := [oD 3 (.mv (.k (.int .i64 0)))]
def a0_1 : AC := .reg a0l1
def a0l2 : List AOp := [oD 9 (.mv (.t 0)),
oD 10 (.arr .len [(.t 9)]),
oD 11 (.mv (.k (.int .i64 0)))]
def a0_2 : AC := .reg a0l2
def a0l3 : List AOp := [oD 12 (.bin .lss (.t 11) (.t 10))]
def a0_3 : AC := .reg a0l3
def a0_4 : AC := .cond (.t 12) .skip (.exit 0)
def a0l5 : List AOp := [oD 13 (.arr (.ix 1) [(.t 9), (.t 11)]),
oD 14 (.load none (.t 13)),
oD 5 (.mv (.t 14))]
def a0_5 : AC := .reg a0l5
def a0l6 : List AOp := [oD 15 (.mv (.t 3)),
oD 16 (.mv (.t 5)),
oD 17 (.arr .len [(.t 16)]),
oD 18 (.bin .add (.t 15) (.t 17)),
oD 3 (.mv (.t 18))]
def a0_6 : AC := .reg a0l6
def a0l7 : List AOp := [oD 19 (.mv (.t 3)),
oD 20 (.bin .lss (.t 19) (.k (.int .i64 0)))]
def a0_7 : AC := .reg a0l7
def a0l8 : List AOp := [oD 21 (.mki 9 (.k (.str [108, 101, 110, 32, 111, 117, 116, 32, 111, 102, 32, 114, 97, 110, 103, 101]))),
oN (.fail)]
def a0_8 : AC := .reg a0l8
def a0_9 : AC := .cond (.t 20) a0_8 .skip
def a0_10 : AC := .seq a0_7 a0_9
def a0_11 : AC := .seq a0_6 a0_10
def a0_12 : AC := .seq a0_5 a0_11
def a0_13 : AC := .block 1 a0_12
def a0l14 : List AOp := [oD 22 (.bin .add (.t 11) (.k (.int .i64 1))),
oD 11 (.mv (.t 22))]
def a0_14 : AC := .reg a0l14
def a0_15 : AC := .seq a0_13 a0_14
def a0_16 : AC := .seq a0_4 a0_15
def a0_17 : AC := .seq a0_3 a0_16
def a0_18 : AC := .loop [0, 3, 9, 10, 11] 1000000000 a0_17
def a0_19 : AC := .block 0 a0_18
def a0_20 : AC := .seq a0_2 a0_19
def a0l21 : List AOp := [oD 23 (.mv (.t 3)),
oD 24 (.icall 53 [(.k .nils), (.t 23)]),
oD 6 (.mv (.t 24))]
def a0_21 : AC := .reg a0l21
def a0l22 : List AOp := [oD 25 (.mv (.t 0)),
oD 26 (.arr .len [(.t 25)]),
oD 27 (.mv (.k (.int .i64 0)))]
def a0_22 : AC := .reg a0l22
def a0l23 : List AOp := [oD 28 (.bin .lss (.t 27) (.t 26))]
def a0_23 : AC := .reg a0l23
def a0_24 : AC := .cond (.t 28) .skip (.exit 2)
def a0l25 : List AOp := [oD 29 (.arr (.ix 1) [(.t 25), (.t 27)]),
oD 30 (.load none (.t 29)),
oD 8 (.mv (.t 30))]
def a0_25 : AC := .reg a0l25
def a0l26 : List AOp := [oD 31 (.mv (.t 6)),
oD 32 (.mv (.t 8)),
oD 33 (.mop (.aapp 4 [(.int .i64 0), (.int .i64 0), (.int .i64 0), (.int .i64 0)]) [(.t 31), (.t 32)]),
oD 6 (.mv (.t 33))]
def a0_26 : AC := .reg a0l26
def a0_27 : AC := .seq a0_25 a0_26
def a0_28 : AC := .block 3 a0_27
def a0l29 : List AOp := [oD 34 (.bin .add (.t 27) (.k (.int .i64 1))),
oD 27 (.mv (.t 34))]
def a0_29 : AC := .reg a0l29
def a0_30 : AC := .seq a0_28 a0_29
def a0_31 : AC := .seq a0_24 a0_30
def a0_32 : AC := .seq a0_23 a0_31
def a0_33 : AC := .loop [6, 25, 26, 27] 1000000000 a0_32
def a0_34 : AC := .block 2 a0_33
def a0_35 : AC := .seq a0_22 a0_34
def a0l36 : List AOp := [oD 35 (.mv (.t 6)),
oD 2 (.mv (.t 35))]
def a0_36 : AC := .reg a0l36
def a0_37 : AC := .seq a0_36 .ret
def a0_38 : AC := .seq a0_35 a0_37
def a0_39 : AC := .seq a0_21 a0_38
def a0_40 : AC := .seq a0_20 a0_39
def a0_41 : AC := .seq a0_1 a0_40
def a0_42 : AC := .seq a0_0 a0_41
def ac_slices_Concat_api_Ext : AC := a0_42
theorem cm45 : compF Tryz.prog [24, 3000053, 1000053, 7000000, 9000000] (drawR Tryz.prog [24, 3000053, 1000053, 7000000, 9000000] Tryz.f31.ntmps) [([0, 3, 9, 10, 11], 1000000000), ([6, 25, 26, 27], 1000000000)] 1 Tryz.f31 = some (ac_slices_Concat_api_Ext, [.t 2]) := by kernel_rfl
def U45 := J oA (J (J (J (J (J (J @ac_slices_Concat_api_Ext.eq_1 (@mR _ _ a0_0.eq_1)) (J (@mR _ _ a0_1.eq_1) (@mR _ _ a0_2.eq_1))) (J (J (@mR _ _ a0_3.eq_1) (@mU _ _ a0_4.eq_1)) (J (@mR _ _ a0_5.eq_1) (@mR _ _ a0_6.eq_1)))) (J (J (J (@mR _ _ a0_7.eq_1) (@mR _ _ a0_8.eq_1)) (J (@mU _ _ a0_9.eq_1) (@mU _ _ a0_10.eq_1))) (J (J (@mU _ _ a0_11.eq_1) (@mU _ _ a0_12.eq_1)) (@mU _ _ a0_13.eq_1)))) (J (J (J (J (@mR _ _ a0_14.eq_1) (@mU _ _ a0_15.eq_1)) (J (@mU _ _ a0_16.eq_1) (@mU _ _ a0_17.eq_1))) (J (J (@mU _ _ a0_18.eq_1) (@mU _ _ a0_19.eq_1)) (J (@mU _ _ a0_20.eq_1) (@mR _ _ a0_21.eq_1)))) (J (J (J (@mR _ _ a0_22.eq_1) (@mR _ _ a0_23.eq_1)) (J (@mU _ _ a0_24.eq_1) (@mR _ _ a0_25.eq_1))) (J (J (@mR _ _ a0_26.eq_1) (@mU _ _ a0_27.eq_1)) (@mU _ _ a0_28.eq_1))))) (J (J (J (J (J (@mR _ _ a0_29.eq_1) (@mU _ _ a0_30.eq_1)) (J (@mU _ _ a0_31.eq_1) (@mU _ _ a0_32.eq_1))) (J (J (@mU _ _ a0_33.eq_1) (@mU _ _ a0_34.eq_1)) (J (@mU _ _ a0_35.eq_1) (@mR _ _ a0_36.eq_1)))) (J (J (J (@mU _ _ a0_37.eq_1) (@mU _ _ a0_38.eq_1)) (J (@mU _ _ a0_39.eq_1) (@mU _ _ a0_40.eq_1))) (J (J (@mU _ _ a0_41.eq_1) (@mU _ _ a0_42.eq_1)) @a0l0.eq_1))) (J (J (J (J @a0l1.eq_1 @a0l2.eq_1) (J @a0l3.eq_1 @a0l5.eq_1)) (J (J @a0l6.eq_1 @a0l7.eq_1) (J @a0l8.eq_1 @a0l14.eq_1))) (J (J (J @a0l21.eq_1 @a0l22.eq_1) (J @a0l23.eq_1 @a0l25.eq_1)) (J (J @a0l26.eq_1 @a0l29.eq_1) @a0l36.eq_1)))))

/- slices.IndexFunc[[]scoria/api.Ext,scoria/api.Ext] -/
def a1l0 : List AOp := [oD 4 (.mv (.k (.int .i64 0)))]
def a1_0 : AC := .reg a1l0
def a1l1 : List AOp := [oD 6 (.mv (.t 0)),
oD 7 (.arr .len [(.t 6)]),
oD 8 (.mv (.k (.int .i64 0)))]
def a1_1 : AC := .reg a1l1
def a1l2 : List AOp := [oD 9 (.bin .lss (.t 8) (.t 7))]
def a1_2 : AC := .reg a1l2
def a1_3 : AC := .cond (.t 9) .skip (.exit 0)
def a1l4 : List AOp := [oD 10 (.mv (.t 8)),
oD 5 (.mv (.t 10))]
def a1_4 : AC := .reg a1l4
def a1l5 : List AOp := [oD 11 (.mv (.t 1)),
oD 12 (.mv (.t 0)),
oD 13 (.mv (.t 5)),
oD 14 (.arr (.ix 4) [(.t 12), (.t 13)]),
oD 15 (.load (some 4) (.t 14)),
oD 16 (.callv (.t 11) [(.t 15)])]
def a1_5 : AC := .reg a1l5
def a1l6 : List AOp := [oD 17 (.mv (.t 5)),
oD 4 (.mv (.t 17))]
def a1_6 : AC := .reg a1l6
def a1_7 : AC := .seq a1_6 .ret
def a1_8 : AC := .cond (.t 16) a1_7 .skip
def a1_9 : AC := .seq a1_5 a1_8
def a1_10 : AC := .seq a1_4 a1_9
def a1_11 : AC := .block 1 a1_10
def a1l12 : List AOp := [oD 18 (.bin .add (.t 8) (.k (.int .i64 1))),
oD 8 (.mv (.t 18))]
def a1_12 : AC := .reg a1l12
def a1_13 : AC := .seq a1_11 a1_12
def a1_14 : AC := .seq a1_3 a1_13
def a1_15 : AC := .seq a1_2 a1_14
def a1_16 : AC := .loop [0, 1, 7, 8] 1000000000 a1_15
def a1_17 : AC := .block 0 a1_16
def a1_18 : AC := .seq a1_1 a1_17
def a1l19 : List AOp := [oD 4 (.mv (.k (.int .i64 (-1))))]
def a1_19 : AC := .reg a1l19
def a1_20 : AC := .seq a1_19 .ret
def a1_21 : AC := .seq a1_18 a1_20
def a1_22 : AC := .seq a1_0 a1_21
def ac_slices_IndexFunc_api_Ext : AC := a1_22
theorem cm53 : compF Tryz.prog [7000000, 9000000] (drawR Tryz.prog [7000000, 9000000] Tryz.f35.ntmps) [([0, 1, 7, 8], 1000000000)] 2 Tryz.f35 = some (ac_slices_IndexFunc_api_Ext, [.t 4]) := by kernel_rfl
def U53 := J oA (J (J (J (J (J @ac_slices_IndexFunc_api_Ext.eq_1 (@mR _ _ a1_0.eq_1)) (J (@mR _ _ a1_1.eq_1) (@mR _ _ a1_2.eq_1))) (J (J (@mU _ _ a1_3.eq_1) (@mR _ _ a1_4.eq_1)) (J (@mR _ _ a1_5.eq_1) (@mR _ _ a1_6.eq_1)))) (J (J (J (@mU _ _ a1_7.eq_1) (@mU _ _ a1_8.eq_1)) (J (@mU _ _ a1_9.eq_1) (@mU _ _ a1_10.eq_1))) (J (J (@mU _ _ a1_11.eq_1) (@mR _ _ a1_12.eq_1)) (J (@mU _ _ a1_13.eq_1) (@mU _ _ a1_14.eq_1))))) (J (J (J (J (@mU _ _ a1_15.eq_1) (@mU _ _ a1_16.eq_1)) (J (@mU _ _ a1_17.eq_1) (@mU _ _ a1_18.eq_1))) (J (J (@mR _ _ a1_19.eq_1) (@mU _ _ a1_20.eq_1)) (J (@mU _ _ a1_21.eq_1) (@mU _ _ a1_22.eq_1)))) (J (J (J @a1l0.eq_1 @a1l1.eq_1) (J @a1l2.eq_1 @a1l4.eq_1)) (J (J @a1l5.eq_1 @a1l6.eq_1) (J @a1l12.eq_1 @a1l19.eq_1)))))

/- slices.Grow[[]scoria/api.Ext,scoria/api.Ext] -/
def a2l0 : List AOp := [oD 4 (.mv (.k (.slc [])))]
def a2_0 : AC := .reg a2l0
def a2l1 : List AOp := [oD 5 (.mv (.t 1)),
oD 6 (.bin .lss (.t 5) (.k (.int .i64 0)))]
def a2_1 : AC := .reg a2l1
def a2l2 : List AOp := [oD 7 (.mki 9 (.k (.str [99, 97, 110, 110, 111, 116, 32, 98, 101, 32, 110, 101, 103, 97, 116, 105, 118, 101]))),
oN (.fail)]
def a2_2 : AC := .reg a2l2
def a2_3 : AC := .cond (.t 6) a2_2 .skip
def a2_4 : AC := .seq a2_1 a2_3
def a2l5 : List AOp := [oD 8 (.mv (.t 1)),
oD 9 (.mv (.t 0)),
oD 10 (.arr .cap [(.t 9)]),
oD 11 (.mv (.t 0)),
oD 12 (.arr .len [(.t 11)]),
oD 13 (.bin .sub (.t 10) (.t 12)),
oD 14 (.bin .sub (.t 8) (.t 13)),
oD 1 (.mv (.t 14))]
def a2_5 : AC := .reg a2l5
def a2l6 : List AOp := [oD 15 (.mv (.t 1)),
oD 16 (.bin .gtr (.t 15) (.k (.int .i64 0)))]
def a2_6 : AC := .reg a2l6
def a2l7 : List AOp := [oD 17 (.mv (.t 0)),
oD 18 (.mv (.t 0)),
oD 19 (.arr .cap [(.t 18)]),
oD 20 (.arr (.sl 4 false true false) [(.t 17), (.k .bot), (.t 19), (.k .bot)]),
oD 21 (.mv (.t 1)),
oD 22 (.mop (.aapz 4 [(.int .i64 0), (.int .i64 0), (.int .i64 0), (.int .i64 0)]) [(.t 20), (.t 21)]),
oD 23 (.mv (.t 0)),
oD 24 (.arr .len [(.t 23)]),
oD 25 (.arr (.sl 4 false true false) [(.t 22), (.k .bot), (.t 24), (.k .bot)]),
oD 0 (.mv (.t 25))]
def a2_7 : AC := .reg a2l7
def a2_8 : AC := .cond (.t 16) a2_7 .skip
def a2_9 : AC := .seq a2_6 a2_8
def a2_10 : AC := .seq a2_5 a2_9
def a2l11 : List AOp := [oD 26 (.mv (.t 0)),
oD 4 (.mv (.t 26))]
def a2_11 : AC := .reg a2l11
def a2_12 : AC := .seq a2_11 .ret
def a2_13 : AC := .seq a2_10 a2_12
def a2_14 : AC := .seq a2_4 a2_13
def a2_15 : AC := .seq a2_0 a2_14
def ac_slices_Grow_api_Ext : AC := a2_15
theorem cm51 : compF Tryz.prog [7000000, 9000000] (drawR Tryz.prog [7000000, 9000000] Tryz.f53.ntmps) [] 2 Tryz.f53 = some (ac_slices_Grow_api_Ext, [.t 4]) := by kernel_rfl
def U51 := J oA (J (J (J (J (J @ac_slices_Grow_api_Ext.eq_1 (@mR _ _ a2_0.eq_1)) (@mR _ _ a2_1.eq_1)) (J (J (@mR _ _ a2_2.eq_1) (@mU _ _ a2_3.eq_1)) (@mU _ _ a2_4.eq_1))) (J (J (J (@mR _ _ a2_5.eq_1) (@mR _ _ a2_6.eq_1)) (@mR _ _ a2_7.eq_1)) (J (J (@mU _ _ a2_8.eq_1) (@mU _ _ a2_9.eq_1)) (@mU _ _ a2_10.eq_1)))) (J (J (J (J (@mR _ _ a2_11.eq_1) (@mU _ _ a2_12.eq_1)) (@mU _ _ a2_13.eq_1)) (J (J (@mU _ _ a2_14.eq_1) (@mU _ _ a2_15.eq_1)) @a2l0.eq_1)) (J (J (J @a2l1.eq_1 @a2l2.eq_1) @a2l5.eq_1) (J (J @a2l6.eq_1 @a2l7.eq_1) @a2l11.eq_1))))

/- slices.DeleteFunc[[]scoria/api.Ext,scoria/api.Ext] -/
def a3l0 : List AOp := [oD 4 (.mv (.k (.slc [])))]
def a3_0 : AC := .reg a3l0
def a3l1 : List AOp := [oD 8 (.mv (.t 0)),
oD 9 (.mv (.t 1)),
oD 10 (.rcall 35 [(.t 8), (.t 9)]),
oD 5 (.mv (.t 10))]
def a3_1 : AC := .reg a3l1
def a3l2 : List AOp := [oD 11 (.mv (.t 5)),
oD 12 (.bin .eql (.t 11) (.k (.int .i64 (-1))))]
def a3_2 : AC := .reg a3l2
def a3l3 : List AOp := [oD 13 (.mv (.t 0)),
oD 4 (.mv (.t 13))]
def a3_3 : AC := .reg a3l3
def a3_4 : AC := .seq a3_3 .ret
def a3_5 : AC := .cond (.t 12) a3_4 .skip
def a3_6 : AC := .seq a3_2 a3_5
def a3l7 : List AOp := [oD 14 (.mv (.t 5)),
oD 15 (.bin .add (.t 14) (.k (.int .i64 1))),
oD 6 (.mv (.t 15))]
def a3_7 : AC := .reg a3l7
def a3l8 : List AOp := [oD 16 (.mv (.t 6)),
oD 17 (.mv (.t 0)),
oD 18 (.arr .len [(.t 17)]),
oD 19 (.bin .lss (.t 16) (.t 18))]
def a3_8 : AC := .reg a3l8
def a3_9 : AC := .cond (.t 19) .skip (.exit 0)
def a3_10 : AC := .seq a3_8 a3_9
def a3l11 : List AOp := [oD 22 (.mv (.t 0)),
oD 23 (.mv (.t 6)),
oD 24 (.arr (.ix 4) [(.t 22), (.t 23)]),
oD 25 (.load (some 4) (.t 24)),
oD 7 (.alloc [(.int .i64 0), (.int .i64 0), (.int .i64 0), (.int .i64 0)]),
oN (.store 4 (.t 7) (.t 25))]
def a3_11 : AC := .reg a3l11
def a3l12 : List AOp := [oD 26 (.mv (.t 1)),
oD 27 (.load (some 4) (.t 7)),
oD 28 (.callv (.t 26) [(.t 27)]),
oD 29 (.un .not (.t 28))]
def a3_12 : AC := .reg a3l12
def a3l13 : List AOp := [oD 30 (.mv (.t 0)),
oD 31 (.mv (.t 5)),
oD 32 (.load (some 4) (.t 7)),
oD 33 (.arr (.ix 4) [(.t 30), (.t 31)]),
oN (.store 4 (.t 33) (.t 32))]
def a3_13 : AC := .reg a3l13
def a3l14 : List AOp := [oD 34 (.mv (.t 5)),
oD 35 (.bin .add (.t 34) (.k (.int .i64 1))),
oD 5 (.mv (.t 35))]
def a3_14 : AC := .reg a3l14
def a3_15 : AC := .seq a3_13 a3_14
def a3_16 : AC := .cond (.t 29) a3_15 .skip
def a3_17 : AC := .seq a3_12 a3_16
def a3_18 : AC := .seq a3_11 a3_17
def a3_19 : AC := .block 1 a3_18
def a3l20 : List AOp := [oD 20 (.mv (.t 6)),
oD 21 (.bin .add (.t 20) (.k (.int .i64 1))),
oD 6 (.mv (.t 21))]
def a3_20 : AC := .reg a3l20
def a3_21 : AC := .seq a3_19 a3_20
def a3_22 : AC := .seq a3_10 a3_21
def a3_23 : AC := .loop [0, 1, 5, 6] 1000000000 a3_22
def a3_24 : AC := .block 0 a3_23
def a3_25 : AC := .seq a3_7 a3_24
def a3l26 : List AOp := [oD 36 (.mv (.t 0)),
oD 37 (.mv (.t 5)),
oD 38 (.arr (.sl 4 true false false) [(.t 36), (.t 37), (.k .bot), (.k .bot)]),
oN (.mop (.aclr [(.int .i64 0), (.int .i64 0), (.int .i64 0), (.int .i64 0)]) [(.t 38)])]
def a3_26 : AC := .reg a3l26
def a3l27 : List AOp := [oD 39 (.mv (.t 0)),
oD 40 (.mv (.t 5)),
oD 41 (.arr (.sl 4 false true false) [(.t 39), (.k .bot), (.t 40), (.k .bot)]),
oD 4 (.mv (.t 41))]
def a3_27 : AC := .reg a3l27
def a3_28 : AC := .seq a3_27 .ret
def a3_29 : AC := .seq a3_26 a3_28
def a3_30 : AC := .seq a3_25 a3_29
def a3_31 : AC := .seq a3_6 a3_30
def a3_32 : AC := .seq a3_1 a3_31
def a3_33 : AC := .seq a3_0 a3_32
def ac_slices_DeleteFunc_api_Ext : AC := a3_33
theorem cm49 : compF Tryz.prog [4000035, 7000000, 9000000] (drawR Tryz.prog [4000035, 7000000, 9000000] Tryz.f80.ntmps) [([0, 1, 5, 6], 1000000000)] 2 Tryz.f80 = some (ac_slices_DeleteFunc_api_Ext, [.t 4]) := by kernel_rfl
def U49 := J oA (J (J (J (J (J (J @ac_slices_DeleteFunc_api_Ext.eq_1 (@mR _ _ a3_0.eq_1)) (@mR _ _ a3_1.eq_1)) (J (J (@mR _ _ a3_2.eq_1) (@mR _ _ a3_3.eq_1)) (@mU _ _ a3_4.eq_1))) (J (J (J (@mU _ _ a3_5.eq_1) (@mU _ _ a3_6.eq_1)) (@mR _ _ a3_7.eq_1)) (J (J (@mR _ _ a3_8.eq_1) (@mU _ _ a3_9.eq_1)) (@mU _ _ a3_10.eq_1)))) (J (J (J (J (@mR _ _ a3_11.eq_1) (@mR _ _ a3_12.eq_1)) (@mR _ _ a3_13.eq_1)) (J (J (@mR _ _ a3_14.eq_1) (@mU _ _ a3_15.eq_1)) (@mU _ _ a3_16.eq_1))) (J (J (J (@mU _ _ a3_17.eq_1) (@mU _ _ a3_18.eq_1)) (@mU _ _ a3_19.eq_1)) (J (J (@mR _ _ a3_20.eq_1) (@mU _ _ a3_21.eq_1)) (@mU _ _ a3_22.eq_1))))) (J (J (J (J (J (@mU _ _ a3_23.eq_1) (@mU _ _ a3_24.eq_1)) (@mU _ _ a3_25.eq_1)) (J (J (@mR _ _ a3_26.eq_1) (@mR _ _ a3_27.eq_1)) (@mU _ _ a3_28.eq_1))) (J (J (J (@mU _ _ a3_29.eq_1) (@mU _ _ a3_30.eq_1)) (@mU _ _ a3_31.eq_1)) (J (J (@mU _ _ a3_32.eq_1) (@mU _ _ a3_33.eq_1)) @a3l0.eq_1))) (J (J (J (J @a3l1.eq_1 @a3l2.eq_1) @a3l3.eq_1) (J (J @a3l7.eq_1 @a3l8.eq_1) @a3l11.eq_1)) (J (J (J @a3l12.eq_1 @a3l13.eq_1) @a3l14.eq_1) (J (J @a3l20.eq_1 @a3l26.eq_1) @a3l27.eq_1)))))

/- scoria/tree.remove$1 -/
def a4l0 : List AOp := [oD 2 (.box (.t 0)),
oD 3 (.mv (.k (.bool false)))]
def a4_0 : AC := .reg a4l0
def a4l1 : List AOp := [oD 4 (.faddr 0 (.t 2)),
oD 5 (.load none (.t 4)),
oD 6 (.load none (.t 1)),
oD 7 (.bin .eql (.t 5) (.t 6)),
oD 3 (.mv (.t 7))]
def a4_1 : AC := .reg a4l1
def a4_2 : AC := .seq a4_1 .ret
def a4_3 : AC := .seq a4_0 a4_2
def ac_tree_remove_c1 : AC := a4_3
theorem cm92 : compF Tryz.prog [] (drawR Tryz.prog [] Tryz.f81.ntmps) [] 2 Tryz.f81 = some (ac_tree_remove_c1, [.t 3]) := by kernel_rfl
def U92 := J oA (J (J (J @ac_tree_remove_c1.eq_1 (@mR _ _ a4_0.eq_1)) (J (@mR _ _ a4_1.eq_1) (@mU _ _ a4_2.eq_1))) (J (J (@mU _ _ a4_3.eq_1) @a4l0.eq_1) @a4l1.eq_1))

/- slices.BinarySearchFunc[[]scoria/api.Ext,scoria/api.Ext,int] -/
def a5l0 : List AOp := [oD 6 (.mv (.k (.int .i64 0))),
oD 7 (.mv (.k (.bool false)))]
def a5_0 : AC := .reg a5l0
def a5l1 : List AOp := [oD 12 (.mv (.t 0)),
oD 13 (.arr .len [(.t 12)]),
oD 8 (.mv (.t 13))]
def a5_1 : AC := .reg a5l1
def a5l2 : List AOp := [oD 14 (.mv (.t 8)),
oD 9 (.mv (.k (.int .i64 0))),
oD 10 (.mv (.t 14))]
def a5_2 : AC := .reg a5l2
def a5l3 : List AOp := [oD 15 (.mv (.t 9)),
oD 16 (.mv (.t 10)),
oD 17 (.bin .lss (.t 15) (.t 16))]
def a5_3 : AC := .reg a5l3
def a5_4 : AC := .cond (.t 17) .skip (.exit 0)
def a5_5 : AC := .seq a5_3 a5_4
def a5l6 : List AOp := [oD 18 (.mv (.t 9)),
oD 19 (.mv (.t 10)),
oD 20 (.bin .add (.t 18) (.t 19)),
oD 21 (.conv .u64 (.t 20)),
oD 22 (.bin .shr (.t 21) (.k (.int .u64 1))),
oD 23 (.conv .i64 (.t 22)),
oD 11 (.mv (.t 23))]
def a5_6 : AC := .reg a5l6
def a5l7 : List AOp := [oD 24 (.mv (.t 2)),
oD 25 (.mv (.t 0)),
oD 26 (.mv (.t 11)),
oD 27 (.arr (.ix 4) [(.t 25), (.t 26)]),
oD 28 (.load (some 4) (.t 27)),
oD 29 (.mv (.t 1)),
oD 30 (.callv (.t 24) [(.t 28), (.t 29)]),
oD 31 (.bin .lss (.t 30) (.k (.int .i64 0)))]
def a5_7 : AC := .reg a5l7
def a5l8 : List AOp := [oD 32 (.mv (.t 11)),
oD 33 (.bin .add (.t 32) (.k (.int .i64 1))),
oD 9 (.mv (.t 33))]
def a5_8 : AC := .reg a5l8
def a5l9 : List AOp := [oD 34 (.mv (.t 11)),
oD 10 (.mv (.t 34))]
def a5_9 : AC := .reg a5l9
def a5_10 : AC := .cond (.t 31) a5_8 a5_9
def a5_11 : AC := .seq a5_7 a5_10
def a5_12 : AC := .seq a5_6 a5_11
def a5_13 : AC := .block 1 a5_12
def a5_14 : AC := .seq a5_5 a5_13
def a5_15 : AC := .loop [0, 1, 2, 8, 9, 10] 1000000000 a5_14
def a5_16 : AC := .block 0 a5_15
def a5l17 : List AOp := [oD 35 (.mv (.t 9)),
oD 36 (.mv (.t 9)),
oD 37 (.mv (.t 8)),
oD 38 (.bin .lss (.t 36) (.t 37)),
oD 39 (.mv (.t 38)),
oG 40 (.mv (.t 2)) 39 true,
oG 41 (.mv (.t 0)) 39 true,
oG 42 (.mv (.t 9)) 39 true,
oG 43 (.arr (.ix 4) [(.t 41), (.t 42)]) 39 true,
oG 44 (.load (some 4) (.t 43)) 39 true,
oG 45 (.mv (.t 1)) 39 true,
oG 46 (.callv (.t 40) [(.t 44), (.t 45)]) 39 true,
oG 47 (.bin .eql (.t 46) (.k (.int .i64 0))) 39 true,
oD 48 (.pick (.t 39) (.t 47) (.k (.bool false))),
oD 6 (.mv (.t 35)),
oD 7 (.mv (.t 48))]
def a5_17 : AC := .reg a5l17
def a5_18 : AC := .seq a5_17 .ret
def a5_19 : AC := .seq a5_16 a5_18
def a5_20 : AC := .seq a5_2 a5_19
def a5_21 : AC := .seq a5_1 a5_20
def a5_22 : AC := .seq a5_0 a5_21
def ac_slices_BinarySearchFunc_int : AC := a5_22
theorem cm42 : compF Tryz.prog [7000000, 9000000] (drawR Tryz.prog [7000000, 9000000] Tryz.f83.ntmps) [([0, 1, 2, 8, 9, 10], 1000000000)] 3 Tryz.f83 = some (ac_slices_BinarySearchFunc_int, [.t 6, .t 7]) := by kernel_rfl
def U42 := J oA (J (J (J (J (J (J @ac_slices_BinarySearchFunc_int.eq_1 (@mR _ _ a5_0.eq_1)) (@mR _ _ a5_1.eq_1)) (J (@mR _ _ a5_2.eq_1) (@mR _ _ a5_3.eq_1))) (J (J (@mU _ _ a5_4.eq_1) (@mU _ _ a5_5.eq_1)) (J (@mR _ _ a5_6.eq_1) (@mR _ _ a5_7.eq_1)))) (J (J (J (@mR _ _ a5_8.eq_1) (@mR _ _ a5_9.eq_1)) (J (@mU _ _ a5_10.eq_1) (@mU _ _ a5_11.eq_1))) (J (J (@mU _ _ a5_12.eq_1) (@mU _ _ a5_13.eq_1)) (J (@mU _ _ a5_14.eq_1) (@mU _ _ a5_15.eq_1))))) (J (J (J (J (@mU _ _ a5_16.eq_1) (@mR _ _ a5_17.eq_1)) (J (@mU _ _ a5_18.eq_1) (@mU _ _ a5_19.eq_1))) (J (J (@mU _ _ a5_20.eq_1) (@mU _ _ a5_21.eq_1)) (J (@mU _ _ a5_22.eq_1) @a5l0.eq_1))) (J (J (J @a5l1.eq_1 @a5l2.eq_1) (J @a5l3.eq_1 @a5l6.eq_1)) (J (J @a5l7.eq_1 @a5l8.eq_1) (J @a5l9.eq_1 @a5l17.eq_1)))))

/- scoria/tree.insert$1 -/
def a6l0 : List AOp := [oD 2 (.box (.t 0)),
oD 4 (.mv (.k (.int .i64 0)))]
def a6_0 : AC := .reg a6l0
def a6l1 : List AOp := [oD 5 (.faddr 0 (.t 2)),
oD 6 (.load none (.t 5)),
oD 7 (.mv (.t 1)),
oD 8 (.bin .sub (.t 6) (.t 7)),
oD 4 (.mv (.t 8))]
def a6_1 : AC := .reg a6l1
def a6_2 : AC := .seq a6_1 .ret
def a6_3 : AC := .seq a6_0 a6_2
def ac_tree_insert_c1 : AC := a6_3
theorem cm87 : compF Tryz.prog [] (drawR Tryz.prog [] Tryz.f84.ntmps) [] 2 Tryz.f84 = some (ac_tree_insert_c1, [.t 4]) := by kernel_rfl
def U87 := J oA (J (J (J @ac_tree_insert_c1.eq_1 (@mR _ _ a6_0.eq_1)) (J (@mR _ _ a6_1.eq_1) (@mU _ _ a6_2.eq_1))) (J (J (@mU _ _ a6_3.eq_1) @a6l0.eq_1) @a6l1.eq_1))

/- slices.Insert[[]scoria/api.Ext,scoria/api.Ext] -/
def a7l0 : List AOp := [oD 6 (.mv (.k (.slc [])))]
def a7_0 : AC := .reg a7l0
def a7l1 : List AOp := [oD 10 (.mv (.t 0)),
oD 11 (.mv (.t 1)),
oD 12 (.arr (.sl 4 true false false) [(.t 10), (.t 11), (.k .bot), (.k .bot)])]
def a7_1 : AC := .reg a7l1
def a7l2 : List AOp := [oD 13 (.mv (.t 2)),
oD 14 (.arr .len [(.t 13)]),
oD 7 (.mv (.t 14))]
def a7_2 : AC := .reg a7l2
def a7l3 : List AOp := [oD 15 (.mv (.t 7)),
oD 16 (.bin .eql (.t 15) (.k (.int .i64 0)))]
def a7_3 : AC := .reg a7l3
def a7l4 : List AOp := [oD 17 (.mv (.t 0)),
oD 6 (.mv (.t 17))]
def a7_4 : AC := .reg a7l4
def a7_5 : AC := .seq a7_4 .ret
def a7_6 : AC := .cond (.t 16) a7_5 .skip
def a7_7 : AC := .seq a7_3 a7_6
def a7l8 : List AOp := [oD 18 (.mv (.t 0)),
oD 19 (.arr .len [(.t 18)]),
oD 8 (.mv (.t 19))]
def a7_8 : AC := .reg a7l8
def a7l9 : List AOp := [oD 20 (.mv (.t 1)),
oD 21 (.mv (.t 8)),
oD 22 (.bin .eql (.t 20) (.t 21))]
def a7_9 : AC := .reg a7l9
def a7l10 : List AOp := [oD 23 (.mv (.t 0)),
oD 24 (.mv (.t 2)),
oD 25 (.mop (.aapp 4 [(.int .i64 0), (.int .i64 0), (.int .i64 0), (.int .i64 0)]) [(.t 23), (.t 24)]),
oD 6 (.mv (.t 25))]
def a7_10 : AC := .reg a7l10
def a7_11 : AC := .seq a7_10 .ret
def a7_12 : AC := .cond (.t 22) a7_11 .skip
def a7_13 : AC := .seq a7_9 a7_12
def a7l14 : List AOp := [oD 26 (.mv (.t 8)),
oD 27 (.mv (.t 7)),
oD 28 (.bin .add (.t 26) (.t 27)),
oD 29 (.mv (.t 0)),
oD 30 (.arr .cap [(.t 29)]),
oD 31 (.bin .gtr (.t 28) (.t 30))]
def a7_14 : AC := .reg a7l14
def a7l15 : List AOp := [oD 32 (.mv (.t 0)),
oD 33 (.mv (.t 1)),
oD 34 (.arr (.sl 4 false true false) [(.t 32), (.k .bot), (.t 33), (.k .bot)]),
oD 35 (.mv (.t 8)),
oD 36 (.mv (.t 7)),
oD 37 (.bin .add (.t 35) (.t 36)),
oD 38 (.mv (.t 1)),
oD 39 (.bin .sub (.t 37) (.t 38)),
oD 40 (.mop (.aapz 4 [(.int .i64 0), (.int .i64 0), (.int .i64 0), (.int .i64 0)]) [(.t 34), (.t 39)]),
oD 9 (.mv (.t 40))]
def a7_15 : AC := .reg a7l15
def a7l16 : List AOp := [oD 41 (.mv (.t 9)),
oD 42 (.mv (.t 1)),
oD 43 (.arr (.sl 4 true false false) [(.t 41), (.t 42), (.k .bot), (.k .bot)]),
oD 44 (.mv (.t 2)),
oD 45 (.mop (.acpy 4) [(.t 43), (.t 44)])]
def a7_16 : AC := .reg a7l16
def a7l17 : List AOp := [oD 46 (.mv (.t 9)),
oD 47 (.mv (.t 1)),
oD 48 (.mv (.t 7)),
oD 49 (.bin .add (.t 47) (.t 48)),
oD 50 (.arr (.sl 4 true false false) [(.t 46), (.t 49), (.k .bot), (.k .bot)]),
oD 51 (.mv (.t 0)),
oD 52 (.mv (.t 1)),
oD 53 (.arr (.sl 4 true false false) [(.t 51), (.t 52), (.k .bot), (.k .bot)]),
oD 54 (.mop (.acpy 4) [(.t 50), (.t 53)])]
def a7_17 : AC := .dreg 0 a7l17
def a7l18 : List AOp := [oD 55 (.mv (.t 9)),
oD 6 (.mv (.t 55))]
def a7_18 : AC := .reg a7l18
def a7_19 : AC := .seq a7_18 .ret
def a7_20 : AC := .seq a7_17 a7_19
def a7_21 : AC := .seq a7_16 a7_20
def a7_22 : AC := .seq a7_15 a7_21
def a7_23 : AC := .cond (.t 31) a7_22 .skip
def a7_24 : AC := .seq a7_14 a7_23
def a7l25 : List AOp := [oD 56 (.mv (.t 0)),
oD 57 (.mv (.t 8)),
oD 58 (.mv (.t 7)),
oD 59 (.bin .add (.t 57) (.t 58)),
oD 60 (.arr (.sl 4 false true false) [(.t 56), (.k .bot), (.t 59), (.k .bot)]),
oD 0 (.mv (.t 60))]
def a7_25 : AC := .reg a7l25
def a7l26 : List AOp := [oD 61 (.mv (.t 2)),
oD 62 (.mv (.t 0)),
oD 63 (.mv (.t 1)),
oD 64 (.mv (.t 7)),
oD 65 (.bin .add (.t 63) (.t 64)),
oD 66 (.arr (.sl 4 true false false) [(.t 62), (.t 65), (.k .bot), (.k .bot)]),
oD 67 (.ecall 93 [(.t 61), (.t 66)]),
oD 68 (.un .not (.t 67))]
def a7_26 : AC := .reg a7l26
def a7l27 : List AOp := [oD 69 (.mv (.t 0)),
oD 70 (.mv (.t 1)),
oD 71 (.mv (.t 7)),
oD 72 (.bin .add (.t 70) (.t 71)),
oD 73 (.arr (.sl 4 true false false) [(.t 69), (.t 72), (.k .bot), (.k .bot)]),
oD 74 (.mv (.t 0)),
oD 75 (.mv (.t 1)),
oD 76 (.arr (.sl 4 true false false) [(.t 74), (.t 75), (.k .bot), (.k .bot)]),
oD 77 (.mop (.acpy 4) [(.t 73), (.t 76)])]
def a7_27 : AC := .dreg 0 a7l27
def a7l28 : List AOp := [oD 78 (.mv (.t 0)),
oD 79 (.mv (.t 1)),
oD 80 (.arr (.sl 4 true false false) [(.t 78), (.t 79), (.k .bot), (.k .bot)]),
oD 81 (.mv (.t 2)),
oD 82 (.mop (.acpy 4) [(.t 80), (.t 81)])]
def a7_28 : AC := .reg a7l28
def a7l29 : List AOp := [oD 83 (.mv (.t 0)),
oD 6 (.mv (.t 83))]
def a7_29 : AC := .reg a7l29
def a7_30 : AC := .seq a7_29 .ret
def a7_31 : AC := .seq a7_28 a7_30
def a7_32 : AC := .seq a7_27 a7_31
def a7_33 : AC := .cond (.t 68) a7_32 .skip
def a7_34 : AC := .seq a7_26 a7_33
def a7l35 : List AOp := [oD 84 (.mv (.t 0)),
oD 85 (.mv (.t 8)),
oD 86 (.arr (.sl 4 true false false) [(.t 84), (.t 85), (.k .bot), (.k .bot)]),
oD 87 (.mv (.t 2)),
oD 88 (.mop (.acpy 4) [(.t 86), (.t 87)])]
def a7_35 : AC := .reg a7l35
def a7l36 : List AOp := [oD 89 (.mv (.t 0)),
oD 90 (.mv (.t 1)),
oD 91 (.arr (.sl 4 true false false) [(.t 89), (.t 90), (.k .bot), (.k .bot)]),
oD 92 (.mv (.t 7)),
oD 93 (.call false 94 [(.t 91), (.t 92)])]
def a7_36 : AC := .reg a7l36
def a7l37 : List AOp := [oD 94 (.mv (.t 0)),
oD 6 (.mv (.t 94))]
def a7_37 : AC := .reg a7l37
def a7_38 : AC := .seq a7_37 .ret
def a7_39 : AC := .seq a7_36 a7_38
def a7_40 : AC := .seq a7_35 a7_39
def a7_41 : AC := .seq a7_34 a7_40
def a7_42 : AC := .seq a7_25 a7_41
def a7_43 : AC := .seq a7_24 a7_42
def a7_44 : AC := .seq a7_13 a7_43
def a7_45 : AC := .seq a7_8 a7_44
def a7_46 : AC := .seq a7_7 a7_45
def a7_47 : AC := .seq a7_2 a7_46
def a7_48 : AC := .seq a7_1 a7_47
def a7_49 : AC := .seq a7_0 a7_48
def ac_slices_Insert_api_Ext : AC := a7_49
theorem cm57 : compF Tryz.prog [7000000, 9000000, 8000093, 8000096] (drawR Tryz.prog [7000000, 9000000, 8000093, 8000096] Tryz.f85.ntmps) [] 3 Tryz.f85 = some (ac_slices_Insert_api_Ext, [.t 6]) := by kernel_rfl
def U57 := J oA (J (J (J (J (J (J (J @ac_slices_Insert_api_Ext.eq_1 (@mR _ _ a7_0.eq_1)) (@mR _ _ a7_1.eq_1)) (J (@mR _ _ a7_2.eq_1) (@mR _ _ a7_3.eq_1))) (J (J (@mR _ _ a7_4.eq_1) (@mU _ _ a7_5.eq_1)) (J (@mU _ _ a7_6.eq_1) (@mU _ _ a7_7.eq_1)))) (J (J (J (J (@mR _ _ a7_8.eq_1) (@mR _ _ a7_9.eq_1)) (@mR _ _ a7_10.eq_1)) (J (@mU _ _ a7_11.eq_1) (@mU _ _ a7_12.eq_1))) (J (J (@mU _ _ a7_13.eq_1) (@mR _ _ a7_14.eq_1)) (J (@mR _ _ a7_15.eq_1) (@mR _ _ a7_16.eq_1))))) (J (J (J (J (J (@mD _ _ _ a7_17.eq_1) (@mR _ _ a7_18.eq_1)) (@mU _ _ a7_19.eq_1)) (J (@mU _ _ a7_20.eq_1) (@mU _ _ a7_21.eq_1))) (J (J (@mU _ _ a7_22.eq_1) (@mU _ _ a7_23.eq_1)) (J (@mU _ _ a7_24.eq_1) (@mR _ _ a7_25.eq_1)))) (J (J (J (J (@mR _ _ a7_26.eq_1) (@mD _ _ _ a7_27.eq_1)) (@mR _ _ a7_28.eq_1)) (J (@mR _ _ a7_29.eq_1) (@mU _ _ a7_30.eq_1))) (J (J (@mU _ _ a7_31.eq_1) (@mU _ _ a7_32.eq_1)) (J (@mU _ _ a7_33.eq_1) (@mU _ _ a7_34.eq_1)))))) (J (J (J (J (J (J (@mR _ _ a7_35.eq_1) (@mR _ _ a7_36.eq_1)) (@mR _ _ a7_37.eq_1)) (J (@mU _ _ a7_38.eq_1) (@mU _ _ a7_39.eq_1))) (J (J (@mU _ _ a7_40.eq_1) (@mU _ _ a7_41.eq_1)) (J (@mU _ _ a7_42.eq_1) (@mU _ _ a7_43.eq_1)))) (J (J (J (J (@mU _ _ a7_44.eq_1) (@mU _ _ a7_45.eq_1)) (@mU _ _ a7_46.eq_1)) (J (@mU _ _ a7_47.eq_1) (@mU _ _ a7_48.eq_1))) (J (J (@mU _ _ a7_49.eq_1) @a7l0.eq_1) (J @a7l1.eq_1 @a7l2.eq_1)))) (J (J (J (J (J @a7l3.eq_1 @a7l4.eq_1) @a7l8.eq_1) (J @a7l9.eq_1 @a7l10.eq_1)) (J (J @a7l14.eq_1 @a7l15.eq_1) (J @a7l16.eq_1 @a7l17.eq_1))) (J (J (J (J @a7l18.eq_1 @a7l25.eq_1) @a7l26.eq_1) (J @a7l27.eq_1 @a7l28.eq_1)) (J (J @a7l29.eq_1 @a7l35.eq_1) (J @a7l36.eq_1 @a7l37.eq_1))))))

/- slices.Insert[[]scoria/tree.node,scoria/tree.node] -/
def a8l0 : List AOp := [oD 6 (.mv (.k (.slc [])))]
def a8_0 : AC := .reg a8l0
def a8l1 : List AOp := [oD 10 (.mv (.t 0)),
oD 11 (.mv (.t 1)),
oD 12 (.arr (.sl 1 true false false) [(.t 10), (.t 11), (.k .bot), (.k .bot)])]
def a8_1 : AC := .reg a8l1
def a8l2 : List AOp := [oD 13 (.mv (.t 2)),
oD 14 (.arr .len [(.t 13)]),
oD 7 (.mv (.t 14))]
def a8_2 : AC := .reg a8l2
def a8l3 : List AOp := [oD 15 (.mv (.t 7)),
oD 16 (.bin .eql (.t 15) (.k (.int .i64 0)))]
def a8_3 : AC := .reg a8l3
def a8l4 : List AOp := [oD 17 (.mv (.t 0)),
oD 6 (.mv (.t 17))]
def a8_4 : AC := .reg a8l4
def a8_5 : AC := .seq a8_4 .ret
def a8_6 : AC := .cond (.t 16) a8_5 .skip
def a8_7 : AC := .seq a8_3 a8_6
def a8l8 : List AOp := [oD 18 (.mv (.t 0)),
oD 19 (.arr .len [(.t 18)]),
oD 8 (.mv (.t 19))]
def a8_8 : AC := .reg a8l8
def a8l9 : List AOp := [oD 20 (.mv (.t 1)),
oD 21 (.mv (.t 8)),
oD 22 (.bin .eql (.t 20) (.t 21))]
def a8_9 : AC := .reg a8l9
def a8l10 : List AOp := [oD 23 (.mv (.t 0)),
oD 24 (.mv (.t 2)),
oD 25 (.mop (.aapp 1 [.nili]) [(.t 23), (.t 24)]),
oD 6 (.mv (.t 25))]
def a8_10 : AC := .reg a8l10
def a8_11 : AC := .seq a8_10 .ret
def a8_12 : AC := .cond (.t 22) a8_11 .skip
def a8_13 : AC := .seq a8_9 a8_12
def a8l14 : List AOp := [oD 26 (.mv (.t 8)),
oD 27 (.mv (.t 7)),
oD 28 (.bin .add (.t 26) (.t 27)),
oD 29 (.mv (.t 0)),
oD 30 (.arr .cap [(.t 29)]),
oD 31 (.bin .gtr (.t 28) (.t 30))]
def a8_14 : AC := .reg a8l14
def a8l15 : List AOp := [oD 32 (.mv (.t 0)),
oD 33 (.mv (.t 1)),
oD 34 (.arr (.sl 1 false true false) [(.t 32), (.k .bot), (.t 33), (.k .bot)]),
oD 35 (.mv (.t 8)),
oD 36 (.mv (.t 7)),
oD 37 (.bin .add (.t 35) (.t 36)),
oD 38 (.mv (.t 1)),
oD 39 (.bin .sub (.t 37) (.t 38)),
oD 40 (.mop (.aapz 1 [.nili]) [(.t 34), (.t 39)]),
oD 9 (.mv (.t 40))]
def a8_15 : AC := .reg a8l15
def a8l16 : List AOp := [oD 41 (.mv (.t 9)),
oD 42 (.mv (.t 1)),
oD 43 (.arr (.sl 1 true false false) [(.t 41), (.t 42), (.k .bot), (.k .bot)]),
oD 44 (.mv (.t 2)),
oD 45 (.mop (.acpy 1) [(.t 43), (.t 44)])]
def a8_16 : AC := .reg a8l16
def a8l17 : List AOp := [oD 46 (.mv (.t 9)),
oD 47 (.mv (.t 1)),
oD 48 (.mv (.t 7)),
oD 49 (.bin .add (.t 47) (.t 48)),
oD 50 (.arr (.sl 1 true false false) [(.t 46), (.t 49), (.k .bot), (.k .bot)]),
oD 51 (.mv (.t 0)),
oD 52 (.mv (.t 1)),
oD 53 (.arr (.sl 1 true false false) [(.t 51), (.t 52), (.k .bot), (.k .bot)]),
oD 54 (.mop (.acpy 1) [(.t 50), (.t 53)])]
def a8_17 : AC := .dreg 0 a8l17
def a8l18 : List AOp := [oD 55 (.mv (.t 9)),
oD 6 (.mv (.t 55))]
def a8_18 : AC := .reg a8l18
def a8_19 : AC := .seq a8_18 .ret
def a8_20 : AC := .seq a8_17 a8_19
def a8_21 : AC := .seq a8_16 a8_20
def a8_22 : AC := .seq a8_15 a8_21
def a8_23 : AC := .cond (.t 31) a8_22 .skip
def a8_24 : AC := .seq a8_14 a8_23
def a8l25 : List AOp := [oD 56 (.mv (.t 0)),
oD 57 (.mv (.t 8)),
oD 58 (.mv (.t 7)),
oD 59 (.bin .add (.t 57) (.t 58)),
oD 60 (.arr (.sl 1 false true false) [(.t 56), (.k .bot), (.t 59), (.k .bot)]),
oD 0 (.mv (.t 60))]
def a8_25 : AC := .reg a8l25
def a8l26 : List AOp := [oD 61 (.mv (.t 2)),
oD 62 (.mv (.t 0)),
oD 63 (.mv (.t 1)),
oD 64 (.mv (.t 7)),
oD 65 (.bin .add (.t 63) (.t 64)),
oD 66 (.arr (.sl 1 true false false) [(.t 62), (.t 65), (.k .bot), (.k .bot)]),
oD 67 (.ecall 96 [(.t 61), (.t 66)]),
oD 68 (.un .not (.t 67))]
def a8_26 : AC := .reg a8l26
def a8l27 : List AOp := [oD 69 (.mv (.t 0)),
oD 70 (.mv (.t 1)),
oD 71 (.mv (.t 7)),
oD 72 (.bin .add (.t 70) (.t 71)),
oD 73 (.arr (.sl 1 true false false) [(.t 69), (.t 72), (.k .bot), (.k .bot)]),
oD 74 (.mv (.t 0)),
oD 75 (.mv (.t 1)),
oD 76 (.arr (.sl 1 true false false) [(.t 74), (.t 75), (.k .bot), (.k .bot)]),
oD 77 (.mop (.acpy 1) [(.t 73), (.t 76)])]
def a8_27 : AC := .dreg 0 a8l27
def a8l28 : List AOp := [oD 78 (.mv (.t 0)),
oD 79 (.mv (.t 1)),
oD 80 (.arr (.sl 1 true false false) [(.t 78), (.t 79), (.k .bot), (.k .bot)]),
oD 81 (.mv (.t 2)),
oD 82 (.mop (.acpy 1) [(.t 80), (.t 81)])]
def a8_28 : AC := .reg a8l28
def a8l29 : List AOp := [oD 83 (.mv (.t 0)),
oD 6 (.mv (.t 83))]
def a8_29 : AC := .reg a8l29
def a8_30 : AC := .seq a8_29 .ret
def a8_31 : AC := .seq a8_28 a8_30
def a8_32 : AC := .seq a8_27 a8_31
def a8_33 : AC := .cond (.t 68) a8_32 .skip
def a8_34 : AC := .seq a8_26 a8_33
def a8l35 : List AOp := [oD 84 (.mv (.t 0)),
oD 85 (.mv (.t 8)),
oD 86 (.arr (.sl 1 true false false) [(.t 84), (.t 85), (.k .bot), (.k .bot)]),
oD 87 (.mv (.t 2)),
oD 88 (.mop (.acpy 1) [(.t 86), (.t 87)])]
def a8_35 : AC := .reg a8l35
def a8l36 : List AOp := [oD 89 (.mv (.t 0)),
oD 90 (.mv (.t 1)),
oD 91 (.arr (.sl 1 true false false) [(.t 89), (.t 90), (.k .bot), (.k .bot)]),
oD 92 (.mv (.t 7)),
oD 93 (.call false 97 [(.t 91), (.t 92)])]
def a8_36 : AC := .reg a8l36
def a8l37 : List AOp := [oD 94 (.mv (.t 0)),
oD 6 (.mv (.t 94))]
def a8_37 : AC := .reg a8l37
def a8_38 : AC := .seq a8_37 .ret
def a8_39 : AC := .seq a8_36 a8_38
def a8_40 : AC := .seq a8_35 a8_39
def a8_41 : AC := .seq a8_34 a8_40
def a8_42 : AC := .seq a8_25 a8_41
def a8_43 : AC := .seq a8_24 a8_42
def a8_44 : AC := .seq a8_13 a8_43
def a8_45 : AC := .seq a8_8 a8_44
def a8_46 : AC := .seq a8_7 a8_45
def a8_47 : AC := .seq a8_2 a8_46
def a8_48 : AC := .seq a8_1 a8_47
def a8_49 : AC := .seq a8_0 a8_48
def ac_slices_Insert_tree_node : AC := a8_49
theorem cm58 : compF Tryz.prog [7000000, 9000000, 8000093, 8000096] (drawR Tryz.prog [7000000, 9000000, 8000093, 8000096] Tryz.f87.ntmps) [] 3 Tryz.f87 = some (ac_slices_Insert_tree_node, [.t 6]) := by kernel_rfl
def U58 := J oA (J (J (J (J (J (J (J @ac_slices_Insert_tree_node.eq_1 (@mR _ _ a8_0.eq_1)) (@mR _ _ a8_1.eq_1)) (J (@mR _ _ a8_2.eq_1) (@mR _ _ a8_3.eq_1))) (J (J (@mR _ _ a8_4.eq_1) (@mU _ _ a8_5.eq_1)) (J (@mU _ _ a8_6.eq_1) (@mU _ _ a8_7.eq_1)))) (J (J (J (J (@mR _ _ a8_8.eq_1) (@mR _ _ a8_9.eq_1)) (@mR _ _ a8_10.eq_1)) (J (@mU _ _ a8_11.eq_1) (@mU _ _ a8_12.eq_1))) (J (J (@mU _ _ a8_13.eq_1) (@mR _ _ a8_14.eq_1)) (J (@mR _ _ a8_15.eq_1) (@mR _ _ a8_16.eq_1))))) (J (J (J (J (J (@mD _ _ _ a8_17.eq_1) (@mR _ _ a8_18.eq_1)) (@mU _ _ a8_19.eq_1)) (J (@mU _ _ a8_20.eq_1) (@mU _ _ a8_21.eq_1))) (J (J (@mU _ _ a8_22.eq_1) (@mU _ _ a8_23.eq_1)) (J (@mU _ _ a8_24.eq_1) (@mR _ _ a8_25.eq_1)))) (J (J (J (J (@mR _ _ a8_26.eq_1) (@mD _ _ _ a8_27.eq_1)) (@mR _ _ a8_28.eq_1)) (J (@mR _ _ a8_29.eq_1) (@mU _ _ a8_30.eq_1))) (J (J (@mU _ _ a8_31.eq_1) (@mU _ _ a8_32.eq_1)) (J (@mU _ _ a8_33.eq_1) (@mU _ _ a8_34.eq_1)))))) (J (J (J (J (J (J (@mR _ _ a8_35.eq_1) (@mR _ _ a8_36.eq_1)) (@mR _ _ a8_37.eq_1)) (J (@mU _ _ a8_38.eq_1) (@mU _ _ a8_39.eq_1))) (J (J (@mU _ _ a8_40.eq_1) (@mU _ _ a8_41.eq_1)) (J (@mU _ _ a8_42.eq_1) (@mU _ _ a8_43.eq_1)))) (J (J (J (J (@mU _ _ a8_44.eq_1) (@mU _ _ a8_45.eq_1)) (@mU _ _ a8_46.eq_1)) (J (@mU _ _ a8_47.eq_1) (@mU _ _ a8_48.eq_1))) (J (J (@mU _ _ a8_49.eq_1) @a8l0.eq_1) (J @a8l1.eq_1 @a8l2.eq_1)))) (J (J (J (J (J @a8l3.eq_1 @a8l4.eq_1) @a8l8.eq_1) (J @a8l9.eq_1 @a8l10.eq_1)) (J (J @a8l14.eq_1 @a8l15.eq_1) (J @a8l16.eq_1 @a8l17.eq_1))) (J (J (J (J @a8l18.eq_1 @a8l25.eq_1) @a8l26.eq_1) (J @a8l27.eq_1 @a8l28.eq_1)) (J (J @a8l29.eq_1 @a8l35.eq_1) (J @a8l36.eq_1 @a8l37.eq_1))))))

/- slices.Clone[[]scoria/api.Ext,scoria/api.Ext] -/
def a9l0 : List AOp := [oD 2 (.mv (.k (.slc [])))]
def a9_0 : AC := .reg a9l0
def a9l1 : List AOp := [oD 3 (.mv (.t 0)),
oD 4 (.arr (.isnil false) [(.t 3)])]
def a9_1 : AC := .reg a9l1
def a9l2 : List AOp := [oD 2 (.mv (.k (.slc [])))]
def a9_2 : AC := .reg a9l2
def a9_3 : AC := .seq a9_2 .ret
def a9_4 : AC := .cond (.t 4) a9_3 .skip
def a9_5 : AC := .seq a9_1 a9_4
def a9l6 : List AOp := [oD 5 (.alit [(.int .i64 0), (.int .i64 0), (.int .i64 0), (.int .i64 0)] 0 []),
oD 6 (.mv (.t 0)),
oD 7 (.mop (.aapp 4 [(.int .i64 0), (.int .i64 0), (.int .i64 0), (.int .i64 0)]) [(.t 5), (.t 6)]),
oD 2 (.mv (.t 7))]
def a9_6 : AC := .reg a9l6
def a9_7 : AC := .seq a9_6 .ret
def a9_8 : AC := .seq a9_5 a9_7
def a9_9 : AC := .seq a9_0 a9_8
def ac_slices_Clone_api_Ext : AC := a9_9
theorem cm43 : compF Tryz.prog [5, 7000000, 9000000] (drawR Tryz.prog [5, 7000000, 9000000] Tryz.f95.ntmps) [] 1 Tryz.f95 = some (ac_slices_Clone_api_Ext, [.t 2]) := by kernel_rfl
def U43 := J oA (J (J (J (J @ac_slices_Clone_api_Ext.eq_1 (@mR _ _ a9_0.eq_1)) (J (@mR _ _ a9_1.eq_1) (@mR _ _ a9_2.eq_1))) (J (J (@mU _ _ a9_3.eq_1) (@mU _ _ a9_4.eq_1)) (J (@mU _ _ a9_5.eq_1) (@mR _ _ a9_6.eq_1)))) (J (J (J (@mU _ _ a9_7.eq_1) (@mU _ _ a9_8.eq_1)) (J (@mU _ _ a9_9.eq_1) @a9l0.eq_1)) (J (J @a9l1.eq_1 @a9l2.eq_1) @a9l6.eq_1)))

/- slices.Clone[[]scoria/tree.node,scoria/tree.node] -/
def a10l0 : List AOp := [oD 2 (.mv (.k (.slc [])))]
def a10_0 : AC := .reg a10l0
def a10l1 : List AOp := [oD 3 (.mv (.t 0)),
oD 4 (.arr (.isnil false) [(.t 3)])]
def a10_1 : AC := .reg a10l1
def a10l2 : List AOp := [oD 2 (.mv (.k (.slc [])))]
def a10_2 : AC := .reg a10l2
def a10_3 : AC := .seq a10_2 .ret
def a10_4 : AC := .cond (.t 4) a10_3 .skip
def a10_5 : AC := .seq a10_1 a10_4
def a10l6 : List AOp := [oD 5 (.alit [.nili] 0 []),
oD 6 (.mv (.t 0)),
oD 7 (.mop (.aapp 1 [.nili]) [(.t 5), (.t 6)]),
oD 2 (.mv (.t 7))]
def a10_6 : AC := .reg a10l6
def a10_7 : AC := .seq a10_6 .ret
def a10_8 : AC := .seq a10_5 a10_7
def a10_9 : AC := .seq a10_0 a10_8
def ac_slices_Clone_tree_node : AC := a10_9
theorem cm44 : compF Tryz.prog [5, 7000000, 9000000] (drawR Tryz.prog [5, 7000000, 9000000] Tryz.f98.ntmps) [] 1 Tryz.f98 = some (ac_slices_Clone_tree_node, [.t 2]) := by kernel_rfl
def U44 := J oA (J (J (J (J @ac_slices_Clone_tree_node.eq_1 (@mR _ _ a10_0.eq_1)) (J (@mR _ _ a10_1.eq_1) (@mR _ _ a10_2.eq_1))) (J (J (@mU _ _ a10_3.eq_1) (@mU _ _ a10_4.eq_1)) (J (@mU _ _ a10_5.eq_1) (@mR _ _ a10_6.eq_1)))) (J (J (J (@mU _ _ a10_7.eq_1) (@mU _ _ a10_8.eq_1)) (J (@mU _ _ a10_9.eq_1) @a10l0.eq_1)) (J (J @a10l1.eq_1 @a10l2.eq_1) @a10l6.eq_1)))

/- slices.Delete[[]scoria/tree.node,scoria/tree.node] -/
def a11l0 : List AOp := [oD 6 (.mv (.k (.slc [])))]
def a11_0 : AC := .reg a11l0
def a11l1 : List AOp := [oD 8 (.mv (.t 0)),
oD 9 (.mv (.t 1)),
oD 10 (.mv (.t 2)),
oD 11 (.mv (.t 0)),
oD 12 (.arr .len [(.t 11)]),
oD 13 (.arr (.sl 1 true true true) [(.t 8), (.t 9), (.t 10), (.t 12)])]
def a11_1 : AC := .reg a11l1
def a11l2 : List AOp := [oD 14 (.mv (.t 1)),
oD 15 (.mv (.t 2)),
oD 16 (.bin .eql (.t 14) (.t 15))]
def a11_2 : AC := .reg a11l2
def a11l3 : List AOp := [oD 17 (.mv (.t 0)),
oD 6 (.mv (.t 17))]
def a11_3 : AC := .reg a11l3
def a11_4 : AC := .seq a11_3 .ret
def a11_5 : AC := .cond (.t 16) a11_4 .skip
def a11_6 : AC := .seq a11_2 a11_5
def a11l7 : List AOp := [oD 18 (.mv (.t 0)),
oD 19 (.arr .len [(.t 18)]),
oD 7 (.mv (.t 19))]
def a11_7 : AC := .reg a11l7
def a11l8 : List AOp := [oD 20 (.mv (.t 0)),
oD 21 (.mv (.t 1)),
oD 22 (.arr (.sl 1 false true false) [(.t 20), (.k .bot), (.t 21), (.k .bot)]),
oD 23 (.mv (.t 0)),
oD 24 (.mv (.t 2)),
oD 25 (.arr (.sl 1 true false false) [(.t 23), (.t 24), (.k .bot), (.k .bot)]),
oD 26 (.mop (.aapp 1 [.nili]) [(.t 22), (.t 25)]),
oD 0 (.mv (.t 26))]
def a11_8 : AC := .dreg 0 a11l8
def a11l9 : List AOp := [oD 27 (.mv (.t 0)),
oD 28 (.mv (.t 0)),
oD 29 (.arr .len [(.t 28)]),
oD 30 (.mv (.t 7)),
oD 31 (.arr (.sl 1 true true false) [(.t 27), (.t 29), (.t 30), (.k .bot)]),
oN (.mop (.aclr [.nili]) [(.t 31)])]
def a11_9 : AC := .reg a11l9
def a11l10 : List AOp := [oD 32 (.mv (.t 0)),
oD 6 (.mv (.t 32))]
def a11_10 : AC := .reg a11l10
def a11_11 : AC := .seq a11_10 .ret
def a11_12 : AC := .seq a11_9 a11_11
def a11_13 : AC := .seq a11_8 a11_12
def a11_14 : AC := .seq a11_7 a11_13
def a11_15 : AC := .seq a11_6 a11_14
def a11_16 : AC := .seq a11_1 a11_15
def a11_17 : AC := .seq a11_0 a11_16
def ac_slices_Delete_tree_node : AC := a11_17
theorem cm50 : compF Tryz.prog [7000000, 9000000] (drawR Tryz.prog [7000000, 9000000] Tryz.f101.ntmps) [] 3 Tryz.f101 = some (ac_slices_Delete_tree_node, [.t 6]) := by kernel_rfl
def U50 := J oA (J (J (J (J (J @ac_slices_Delete_tree_node.eq_1 (@mR _ _ a11_0.eq_1)) (J (@mR _ _ a11_1.eq_1) (@mR _ _ a11_2.eq_1))) (J (J (@mR _ _ a11_3.eq_1) (@mU _ _ a11_4.eq_1)) (@mU _ _ a11_5.eq_1))) (J (J (J (@mU _ _ a11_6.eq_1) (@mR _ _ a11_7.eq_1)) (J (@mD _ _ _ a11_8.eq_1) (@mR _ _ a11_9.eq_1))) (J (J (@mR _ _ a11_10.eq_1) (@mU _ _ a11_11.eq_1)) (@mU _ _ a11_12.eq_1)))) (J (J (J (J (@mU _ _ a11_13.eq_1) (@mU _ _ a11_14.eq_1)) (J (@mU _ _ a11_15.eq_1) (@mU _ _ a11_16.eq_1))) (J (J (@mU _ _ a11_17.eq_1) @a11l0.eq_1) @a11l1.eq_1)) (J (J (J @a11l2.eq_1 @a11l3.eq_1) @a11l7.eq_1) (J (J @a11l8.eq_1 @a11l9.eq_1) @a11l10.eq_1))))

/- slices.Concat[[]scoria/tree.node,scoria/tree.node] -/
def a12l0 : List AOp := [oD 2 (.mv (.k (.slc [])))]
def a12_0 : AC := .reg a12l0
def a12l1 : List AOp := [oD 3 (.mv (.k (.int .i64 0)))]
def a12_1 : AC := .reg a12l1
def a12l2 : List AOp := [oD 9 (.mv (.t 0)),
oD 10 (.arr .len [(.t 9)]),
oD 11 (.mv (.k (.int .i64 0)))]
def a12_2 : AC := .reg a12l2
def a12l3 : List AOp := [oD 12 (.bin .lss (.t 11) (.t 10))]
def a12_3 : AC := .reg a12l3
def a12_4 : AC := .cond (.t 12) .skip (.exit 0)
def a12l5 : List AOp := [oD 13 (.arr (.ix 1) [(.t 9), (.t 11)]),
oD 14 (.load none (.t 13)),
oD 5 (.mv (.t 14))]
def a12_5 : AC := .reg a12l5
def a12l6 : List AOp := [oD 15 (.mv (.t 3)),
oD 16 (.mv (.t 5)),
oD 17 (.arr .len [(.t 16)]),
oD 18 (.bin .add (.t 15) (.t 17)),
oD 3 (.mv (.t 18))]
def a12_6 : AC := .reg a12l6
def a12l7 : List AOp := [oD 19 (.mv (.t 3)),
oD 20 (.bin .lss (.t 19) (.k (.int .i64 0)))]
def a12_7 : AC := .reg a12l7
def a12l8 : List AOp := [oD 21 (.mki 9 (.k (.str [108, 101, 110, 32, 111, 117, 116, 32, 111, 102, 32, 114, 97, 110, 103, 101]))),
oN (.fail)]
def a12_8 : AC := .reg a12l8
def a12_9 : AC := .cond (.t 20) a12_8 .skip
def a12_10 : AC := .seq a12_7 a12_9
def a12_11 : AC := .seq a12_6 a12_10
def a12_12 : AC := .seq a12_5 a12_11
def a12_13 : AC := .block 1 a12_12
def a12l14 : List AOp := [oD 22 (.bin .add (.t 11) (.k (.int .i64 1))),
oD 11 (.mv (.t 22))]
def a12_14 : AC := .reg a12l14
def a12_15 : AC := .seq a12_13 a12_14
def a12_16 : AC := .seq a12_4 a12_15
def a12_17 : AC := .seq a12_3 a12_16
def a12_18 : AC := .loop [0, 3, 9, 10, 11] 1000000000 a12_17
def a12_19 : AC := .block 0 a12_18
def a12_20 : AC := .seq a12_2 a12_19
def a12l21 : List AOp := [oD 23 (.mv (.t 3)),
oD 24 (.icall 107 [(.k .nils), (.t 23)]),
oD 6 (.mv (.t 24))]
def a12_21 : AC := .reg a12l21
def a12l22 : List AOp := [oD 25 (.mv (.t 0)),
oD 26 (.arr .len [(.t 25)]),
oD 27 (.mv (.k (.int .i64 0)))]
def a12_22 : AC := .reg a12l22
def a12l23 : List AOp := [oD 28 (.bin .lss (.t 27) (.t 26))]
def a12_23 : AC := .reg a12l23
def a12_24 : AC := .cond (.t 28) .skip (.exit 2)
def a12l25 : List AOp := [oD 29 (.arr (.ix 1) [(.t 25), (.t 27)]),
oD 30 (.load none (.t 29)),
oD 8 (.mv (.t 30))]
def a12_25 : AC := .reg a12l25
def a12l26 : List AOp := [oD 31 (.mv (.t 6)),
oD 32 (.mv (.t 8)),
oD 33 (.mop (.aapp 1 [.nili]) [(.t 31), (.t 32)]),
oD 6 (.mv (.t 33))]
def a12_26 : AC := .reg a12l26
def a12_27 : AC := .seq a12_25 a12_26
def a12_28 : AC := .block 3 a12_27
def a12l29 : List AOp := [oD 34 (.bin .add (.t 27) (.k (.int .i64 1))),
oD 27 (.mv (.t 34))]
def a12_29 : AC := .reg a12l29
def a12_30 : AC := .seq a12_28 a12_29
def a12_31 : AC := .seq a12_24 a12_30
def a12_32 : AC := .seq a12_23 a12_31
def a12_33 : AC := .loop [6, 25, 26, 27] 1000000000 a12_32
def a12_34 : AC := .block 2 a12_33
def a12_35 : AC := .seq a12_22 a12_34
def a12l36 : List AOp := [oD 35 (.mv (.t 6)),
oD 2 (.mv (.t 35))]
def a12_36 : AC := .reg a12l36
def a12_37 : AC := .seq a12_36 .ret
def a12_38 : AC := .seq a12_35 a12_37
def a12_39 : AC := .seq a12_21 a12_38
def a12_40 : AC := .seq a12_20 a12_39
def a12_41 : AC := .seq a12_1 a12_40
def a12_42 : AC := .seq a12_0 a12_41
def ac_slices_Concat_tree_node : AC := a12_42
theorem cm46 : compF Tryz.prog [24, 3000107, 1000107, 7000000, 9000000] (drawR Tryz.prog [24, 3000107, 1000107, 7000000, 9000000] Tryz.f104.ntmps) [([0, 3, 9, 10, 11], 1000000000), ([6, 25, 26, 27], 1000000000)] 1 Tryz.f104 = some (ac_slices_Concat_tree_node, [.t 2]) := by kernel_rfl
def U46 := J oA (J (J (J (J (J (J @ac_slices_Concat_tree_node.eq_1 (@mR _ _ a12_0.eq_1)) (J (@mR _ _ a12_1.eq_1) (@mR _ _ a12_2.eq_1))) (J (J (@mR _ _ a12_3.eq_1) (@mU _ _ a12_4.eq_1)) (J (@mR _ _ a12_5.eq_1) (@mR _ _ a12_6.eq_1)))) (J (J (J (@mR _ _ a12_7.eq_1) (@mR _ _ a12_8.eq_1)) (J (@mU _ _ a12_9.eq_1) (@mU _ _ a12_10.eq_1))) (J (J (@mU _ _ a12_11.eq_1) (@mU _ _ a12_12.eq_1)) (@mU _ _ a12_13.eq_1)))) (J (J (J (J (@mR _ _ a12_14.eq_1) (@mU _ _ a12_15.eq_1)) (J (@mU _ _ a12_16.eq_1) (@mU _ _ a12_17.eq_1))) (J (J (@mU _ _ a12_18.eq_1) (@mU _ _ a12_19.eq_1)) (J (@mU _ _ a12_20.eq_1) (@mR _ _ a12_21.eq_1)))) (J (J (J (@mR _ _ a12_22.eq_1) (@mR _ _ a12_23.eq_1)) (J (@mU _ _ a12_24.eq_1) (@mR _ _ a12_25.eq_1))) (J (J (@mR _ _ a12_26.eq_1) (@mU _ _ a12_27.eq_1)) (@mU _ _ a12_28.eq_1))))) (J (J (J (J (J (@mR _ _ a12_29.eq_1) (@mU _ _ a12_30.eq_1)) (J (@mU _ _ a12_31.eq_1) (@mU _ _ a12_32.eq_1))) (J (J (@mU _ _ a12_33.eq_1) (@mU _ _ a12_34.eq_1)) (J (@mU _ _ a12_35.eq_1) (@mR _ _ a12_36.eq_1)))) (J (J (J (@mU _ _ a12_37.eq_1) (@mU _ _ a12_38.eq_1)) (J (@mU _ _ a12_39.eq_1) (@mU _ _ a12_40.eq_1))) (J (J (@mU _ _ a12_41.eq_1) (@mU _ _ a12_42.eq_1)) @a12l0.eq_1))) (J (J (J (J @a12l1.eq_1 @a12l2.eq_1) (J @a12l3.eq_1 @a12l5.eq_1)) (J (J @a12l6.eq_1 @a12l7.eq_1) (J @a12l8.eq_1 @a12l14.eq_1))) (J (J (J @a12l21.eq_1 @a12l22.eq_1) (J @a12l23.eq_1 @a12l25.eq_1)) (J (J @a12l26.eq_1 @a12l29.eq_1) @a12l36.eq_1)))))

/- slices.Grow[[]scoria/tree.node,scoria/tree.node] -/
def a13l0 : List AOp := [oD 4 (.mv (.k (.slc [])))]
def a13_0 : AC := .reg a13l0
def a13l1 : List AOp := [oD 5 (.mv (.t 1)),
oD 6 (.bin .lss (.t 5) (.k (.int .i64 0)))]
def a13_1 : AC := .reg a13l1
def a13l2 : List AOp := [oD 7 (.mki 9 (.k (.str [99, 97, 110, 110, 111, 116, 32, 98, 101, 32, 110, 101, 103, 97, 116, 105, 118, 101]))),
oN (.fail)]
def a13_2 : AC := .reg a13l2
def a13_3 : AC := .cond (.t 6) a13_2 .skip
def a13_4 : AC := .seq a13_1 a13_3
def a13l5 : List AOp := [oD 8 (.mv (.t 1)),
oD 9 (.mv (.t 0)),
oD 10 (.arr .cap [(.t 9)]),
oD 11 (.mv (.t 0)),
oD 12 (.arr .len [(.t 11)]),
oD 13 (.bin .sub (.t 10) (.t 12)),
oD 14 (.bin .sub (.t 8) (.t 13)),
oD 1 (.mv (.t 14))]
def a13_5 : AC := .reg a13l5
def a13l6 : List AOp := [oD 15 (.mv (.t 1)),
oD 16 (.bin .gtr (.t 15) (.k (.int .i64 0)))]
def a13_6 : AC := .reg a13l6
def a13l7 : List AOp := [oD 17 (.mv (.t 0)),
oD 18 (.mv (.t 0)),
oD 19 (.arr .cap [(.t 18)]),
oD 20 (.arr (.sl 1 false true false) [(.t 17), (.k .bot), (.t 19), (.k .bot)]),
oD 21 (.mv (.t 1)),
oD 22 (.mop (.aapz 1 [.nili]) [(.t 20), (.t 21)]),
oD 23 (.mv (.t 0)),
oD 24 (.arr .len [(.t 23)]),
oD 25 (.arr (.sl 1 false true false) [(.t 22), (.k .bot), (.t 24), (.k .bot)]),
oD 0 (.mv (.t 25))]
def a13_7 : AC := .reg a13l7
def a13_8 : AC := .cond (.t 16) a13_7 .skip
def a13_9 : AC := .seq a13_6 a13_8
def a13_10 : AC := .seq a13_5 a13_9
def a13l11 : List AOp := [oD 26 (.mv (.t 0)),
oD 4 (.mv (.t 26))]
def a13_11 : AC := .reg a13l11
def a13_12 : AC := .seq a13_11 .ret
def a13_13 : AC := .seq a13_10 a13_12
def a13_14 : AC := .seq a13_4 a13_13
def a13_15 : AC := .seq a13_0 a13_14
def ac_slices_Grow_tree_node : AC := a13_15
theorem cm52 : compF Tryz.prog [7000000, 9000000] (drawR Tryz.prog [7000000, 9000000] Tryz.f107.ntmps) [] 2 Tryz.f107 = some (ac_slices_Grow_tree_node, [.t 4]) := by kernel_rfl
def U52 := J oA (J (J (J (J (J @ac_slices_Grow_tree_node.eq_1 (@mR _ _ a13_0.eq_1)) (@mR _ _ a13_1.eq_1)) (J (J (@mR _ _ a13_2.eq_1) (@mU _ _ a13_3.eq_1)) (@mU _ _ a13_4.eq_1))) (J (J (J (@mR _ _ a13_5.eq_1) (@mR _ _ a13_6.eq_1)) (@mR _ _ a13_7.eq_1)) (J (J (@mU _ _ a13_8.eq_1) (@mU _ _ a13_9.eq_1)) (@mU _ _ a13_10.eq_1)))) (J (J (J (J (@mR _ _ a13_11.eq_1) (@mU _ _ a13_12.eq_1)) (@mU _ _ a13_13.eq_1)) (J (J (@mU _ _ a13_14.eq_1) (@mU _ _ a13_15.eq_1)) @a13l0.eq_1)) (J (J (J @a13l1.eq_1 @a13l2.eq_1) @a13l5.eq_1) (J (J @a13l6.eq_1 @a13l7.eq_1) @a13l11.eq_1))))

end Ar
end Go.Proofs.YtdgpiobmncohjaaGreat.Aw
