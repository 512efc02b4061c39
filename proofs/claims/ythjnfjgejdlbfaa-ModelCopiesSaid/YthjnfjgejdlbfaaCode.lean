/-
  The functions of the seat, translated to abstract code. Written by a program (wip/Gen2.lean).
-/
import Derived.Test.YthjnfjgejdlbfaaAwBun
import Derived.Test.YthjnfjgejdlbfaaProg
set_option maxRecDepth 100000
set_option linter.all false
namespace Go.Proofs.Ythjnfjgejdlbfaa.Aw
open Go.RowKit
/- scoria/model.New -/
def qc26l0 : List AOp := [⟨(some 2), .mv (.k .nilp), none, none, [], none⟩]
def qc26_0 : AC := .reg qc26l0
def qc26l1 : List AOp := [⟨(some 3), .mv (.t 0), none, none, [], none⟩,⟨(some 4), .mm true [(.t 3), (.k (.int .i64 0))], none, none, [], none⟩,⟨(some 5), .mop .mk [], none, none, [], none⟩,⟨(some 6), .build [(.int .i64 0), .nilm] [(0, 1, (.t 4)), (1, 1, (.t 5))], none, none, [], none⟩,⟨(some 7), .box (.t 6), none, none, [], none⟩,⟨(some 2), .mv (.t 7), none, none, [], none⟩]
def qc26_1 : AC := .reg qc26l1
def qc26_2 : AC := .seq qc26_1 .ret
def qc26_3 : AC := .seq qc26_0 qc26_2
def ac_model_New : AC := qc26_3
theorem comp_model_New : compF Try.prog [] (drawR Try.prog [] Try.f10.ntmps) [] 1 Try.f10 = some (ac_model_New, [.t 2]) := by kernel_rfl
def U_model_New := (And.intro (And.intro (And.intro @ac_model_New.eq_1 (@mR _ _ qc26_0.eq_1)) (And.intro (@mR _ _ qc26_1.eq_1) (@mU _ _ qc26_2.eq_1))) (And.intro (And.intro (@mU _ _ qc26_3.eq_1) @qc26l0.eq_1) @qc26l1.eq_1))

/- (*scoria/model.Model).Do -/
def qc21l0 : List AOp := [⟨(some 3), .box (.t 1), none, none, [], none⟩,⟨(some 4), .alloc [(.int .i64 0), (.str []), (.int .i64 0), (.int .i64 0), (.slc [])], none, none, [], none⟩]
def qc21_0 : AC := .reg qc21l0
def qc21l1 : List AOp := [⟨(some 6), .mv (.t 0), none, none, [], none⟩,⟨(some 7), .isn .p false (.t 6), none, none, [], none⟩,⟨(some 8), .mv (.t 7), none, none, [], none⟩,⟨(some 9), .faddr 0 (.t 3), (some (8, false)), none, [], none⟩,⟨(some 10), .load none (.t 9), (some (8, false)), none, [], none⟩,⟨(some 11), .call false 24 [(.t 10)], (some (8, false)), none, [], none⟩,⟨(some 12), .bin .eql (.t 11) (.k (.str [63])), (some (8, false)), none, [], none⟩,⟨(some 13), .pick (.t 8) (.k (.bool true)) (.t 12), none, none, [], none⟩,⟨(some 14), .mv (.t 13), none, none, [], none⟩,⟨(some 15), .faddr 0 (.t 3), (some (14, false)), none, [], none⟩,⟨(some 16), .load none (.t 15), (some (14, false)), none, [], none⟩,⟨(some 17), .bin .eql (.t 16) (.k (.int .i64 2)), (some (14, false)), none, [], none⟩,⟨(some 18), .mv (.t 17), (some (14, false)), none, [], none⟩,⟨(some 19), .faddr 3 (.t 3), (some (18, true)), none, [], none⟩,⟨(some 20), .load none (.t 19), (some (18, true)), none, [], none⟩,⟨(some 21), .call false 25 [(.t 20)], (some (18, true)), none, [], none⟩,⟨(some 22), .un .not (.t 21), (some (18, true)), none, [], none⟩,⟨(some 23), .pick (.t 18) (.t 22) (.k (.bool false)), (some (14, false)), none, [], none⟩,⟨(some 24), .pick (.t 14) (.k (.bool true)) (.t 23), none, none, [], none⟩]
def qc21_1 : AC := .reg qc21l1
def qc21l2 : List AOp := [⟨(some 25), .call false 26 [(.k (.int .i64 1))], none, none, [], none⟩,⟨none, .store 5 (.t 4) (.t 25), none, none, [], none⟩]
def qc21_2 : AC := .reg qc21l2
def qc21_3 : AC := .seq qc21_2 .ret
def qc21_4 : AC := .cond (.t 24) qc21_3 .skip
def qc21_5 : AC := .seq qc21_1 qc21_4
def qc21l6 : List AOp := [⟨(some 26), .faddr 0 (.t 3), none, none, [], none⟩,⟨(some 27), .load none (.t 26), none, none, [], none⟩]
def qc21_6 : AC := .reg qc21l6
def qc21l7 : List AOp := [⟨(some 29), .bin .eql (.t 27) (.k (.int .i64 1)), none, none, [], none⟩,⟨(some 28), .mv (.t 29), none, none, [], none⟩]
def qc21_7 : AC := .reg qc21l7
def qc21l8 : List AOp := [⟨(some 30), .mv (.t 0), none, none, [], none⟩,⟨(some 31), .load (some 5) (.t 3), none, none, [], none⟩,⟨(some 32), .icall 27 [(.t 30), (.t 31)], none, none, [], none⟩,⟨none, .store 5 (.t 4) (.t 32), none, none, [], none⟩]
def qc21_8 : AC := .reg qc21l8
def qc21_9 : AC := .seq qc21_8 .ret
def qc21l10 : List AOp := [⟨(some 34), .bin .eql (.t 27) (.k (.int .i64 8)), none, none, [], none⟩,⟨(some 33), .mv (.t 34), none, none, [], none⟩]
def qc21_10 : AC := .reg qc21l10
def qc21l11 : List AOp := [⟨(some 35), .build [(.int .i64 0), (.str []), (.int .i64 0), (.int .i64 0), (.slc [])] [], none, none, [], none⟩,⟨none, .store 5 (.t 4) (.t 35), none, none, [], none⟩]
def qc21_11 : AC := .reg qc21l11
def qc21_12 : AC := .seq qc21_11 .ret
def qc21l13 : List AOp := [⟨(some 37), .bin .eql (.t 27) (.k (.int .i64 10)), none, none, [], none⟩,⟨(some 36), .mv (.t 37), none, none, [], none⟩]
def qc21_13 : AC := .reg qc21l13
def qc21l14t0 : List AOp := [⟨(some 42), .mv (.t 0), none, none, [], none⟩,⟨(some 43), .rcall 28 [(.t 42)], none, none, [], none⟩]
def qc21l14t1 : List AOp := [⟨(some 38), .mv (.t 0), none, none, [], none⟩,⟨(some 39), .nilck (.t 38), none, none, [], none⟩,⟨(some 40), .faddr 0 (.t 39), none, none, [], none⟩,⟨(some 41), .load none (.t 40), none, none, [], none⟩,⟨(some 44), .mv (.t 0), none, none, [], none⟩,⟨(some 45), .icall 20 [(.t 44)], none, none, [], none⟩,⟨(some 46), .build [(.int .i64 0), (.str []), (.int .i64 0), (.int .i64 0), (.slc [])] [(2, 1, (.t 41)), (3, 1, (.t 43)), (4, 1, (.t 45))], none, none, [], none⟩,⟨none, .store 5 (.t 4) (.t 46), none, none, [], none⟩]
def qc21l14t2 : List AOp := [⟨(some 44), .mv (.t 0), none, none, [], none⟩,⟨(some 45), .icall 20 [(.t 44)], none, none, [], none⟩,⟨(some 38), .mv (.t 0), none, none, [], none⟩,⟨(some 39), .nilck (.t 38), none, none, [], none⟩,⟨(some 40), .faddr 0 (.t 39), none, none, [], none⟩,⟨(some 41), .load none (.t 40), none, none, [], none⟩,⟨(some 46), .build [(.int .i64 0), (.str []), (.int .i64 0), (.int .i64 0), (.slc [])] [(2, 1, (.t 41)), (3, 1, (.t 43)), (4, 1, (.t 45))], none, none, [], none⟩,⟨none, .store 5 (.t 4) (.t 46), none, none, [], none⟩]
def qc21_14 : AC := .dregs 0 (.node qc21l14t0 (.leaf qc21l14t1) (.leaf qc21l14t2))
def qc21_15 : AC := .seq qc21_14 .ret
def qc21_16 : AC := .cond (.t 36) qc21_15 .skip
def qc21_17 : AC := .seq qc21_13 qc21_16
def qc21_18 : AC := .cond (.t 33) qc21_12 qc21_17
def qc21_19 : AC := .seq qc21_10 qc21_18
def qc21_20 : AC := .cond (.t 28) qc21_9 qc21_19
def qc21_21 : AC := .seq qc21_7 qc21_20
def qc21_22 : AC := .block 0 qc21_21
def qc21_23 : AC := .seq qc21_6 qc21_22
def qc21l24 : List AOp := [⟨(some 47), .mv (.t 0), none, none, [], none⟩,⟨(some 48), .nilck (.t 47), none, none, [], none⟩,⟨(some 49), .faddr 1 (.t 48), none, none, [], none⟩,⟨(some 50), .load none (.t 49), none, none, [], none⟩,⟨(some 51), .faddr 1 (.t 3), none, none, [], none⟩,⟨(some 52), .load none (.t 51), none, none, [], none⟩,⟨(some 53), .mop (.get false .nilp) [(.t 50), (.t 52)], none, none, [], none⟩,⟨(some 5), .mv (.t 53), none, none, [], none⟩]
def qc21_24 : AC := .dreg 0 qc21l24
def qc21l25 : List AOp := [⟨(some 54), .mv (.t 5), none, none, [], none⟩,⟨(some 55), .isn .p false (.t 54), none, none, [], none⟩]
def qc21_25 : AC := .reg qc21l25
def qc21l26 : List AOp := [⟨(some 56), .call false 26 [(.k (.int .i64 4))], none, none, [], none⟩,⟨none, .store 5 (.t 4) (.t 56), none, none, [], none⟩]
def qc21_26 : AC := .reg qc21l26
def qc21_27 : AC := .seq qc21_26 .ret
def qc21_28 : AC := .cond (.t 55) qc21_27 .skip
def qc21_29 : AC := .seq qc21_25 qc21_28
def qc21l30 : List AOp := [⟨(some 57), .faddr 0 (.t 3), none, none, [], none⟩,⟨(some 58), .load none (.t 57), none, none, [], none⟩]
def qc21_30 : AC := .reg qc21l30
def qc21l31 : List AOp := [⟨(some 60), .bin .eql (.t 58) (.k (.int .i64 2)), none, none, [], none⟩,⟨(some 59), .mv (.t 60), none, none, [], none⟩]
def qc21_31 : AC := .reg qc21l31
def qc21l32 : List AOp := [⟨(some 61), .mv (.t 5), none, none, [], none⟩,⟨(some 62), .faddr 3 (.t 3), none, none, [], none⟩,⟨(some 63), .load none (.t 62), none, none, [], none⟩,⟨(some 64), .nilck (.t 61), none, none, [], none⟩,⟨(some 65), .faddr 0 (.t 64), none, none, [], none⟩,⟨none, .store 1 (.t 65) (.t 63), none, none, [], none⟩]
def qc21_32 : AC := .reg qc21l32
def qc21l33 : List AOp := [⟨(some 66), .mv (.t 5), none, none, [], none⟩,⟨(some 67), .mkfn (.func 30) [] [(.t 3)], none, none, [], none⟩,⟨(some 68), .icall 29 [(.t 66), (.t 67)], none, none, [], none⟩]
def qc21_33 : AC := .reg qc21l33
def qc21l34 : List AOp := [⟨(some 69), .build [(.int .i64 0), (.str []), (.int .i64 0), (.int .i64 0), (.slc [])] [], none, none, [], none⟩,⟨none, .store 5 (.t 4) (.t 69), none, none, [], none⟩]
def qc21_34 : AC := .reg qc21l34
def qc21_35 : AC := .seq qc21_34 .ret
def qc21_36 : AC := .seq qc21_33 qc21_35
def qc21_37 : AC := .seq qc21_32 qc21_36
def qc21l38 : List AOp := [⟨(some 71), .bin .eql (.t 58) (.k (.int .i64 3)), none, none, [], none⟩,⟨(some 70), .mv (.t 71), none, none, [], none⟩]
def qc21_38 : AC := .reg qc21l38
def qc21l39 : List AOp := [⟨(some 72), .mv (.t 0), none, none, [], none⟩,⟨(some 73), .nilck (.t 72), none, none, [], none⟩,⟨(some 74), .faddr 1 (.t 73), none, none, [], none⟩,⟨(some 75), .load none (.t 74), none, none, [], none⟩,⟨(some 76), .faddr 1 (.t 3), none, none, [], none⟩,⟨(some 77), .load none (.t 76), none, none, [], none⟩,⟨none, .mop .del [(.t 75), (.t 77)], none, none, [], none⟩]
def qc21_39 : AC := .dreg 0 qc21l39
def qc21l40 : List AOp := [⟨(some 78), .build [(.int .i64 0), (.str []), (.int .i64 0), (.int .i64 0), (.slc [])] [], none, none, [], none⟩,⟨none, .store 5 (.t 4) (.t 78), none, none, [], none⟩]
def qc21_40 : AC := .reg qc21l40
def qc21_41 : AC := .seq qc21_40 .ret
def qc21_42 : AC := .seq qc21_39 qc21_41
def qc21l43 : List AOp := [⟨(some 80), .bin .eql (.t 58) (.k (.int .i64 9)), none, none, [], none⟩,⟨(some 79), .mv (.t 80), none, none, [], none⟩]
def qc21_43 : AC := .reg qc21l43
def qc21l44t0 : List AOp := [⟨(some 85), .mv (.t 5), none, none, [], none⟩,⟨(some 86), .nilck (.t 85), none, none, [], none⟩,⟨(some 87), .faddr 1 (.t 86), none, none, [], none⟩,⟨(some 88), .load none (.t 87), none, none, [], none⟩]
def qc21l44t1 : List AOp := [⟨(some 81), .mv (.t 5), none, none, [], none⟩,⟨(some 82), .nilck (.t 81), none, none, [], none⟩,⟨(some 83), .faddr 0 (.t 82), none, none, [], none⟩,⟨(some 84), .load none (.t 83), none, none, [], none⟩,⟨(some 89), .mop .len [(.t 88)], none, none, [], none⟩,⟨(some 90), .build [(.int .i64 0), (.str []), (.int .i64 0), (.int .i64 0), (.slc [])] [(2, 1, (.t 84)), (3, 1, (.t 89))], none, none, [], none⟩,⟨none, .store 5 (.t 4) (.t 90), none, none, [], none⟩]
def qc21l44t2 : List AOp := [⟨(some 89), .mop .len [(.t 88)], none, none, [], none⟩,⟨(some 81), .mv (.t 5), none, none, [], none⟩,⟨(some 82), .nilck (.t 81), none, none, [], none⟩,⟨(some 83), .faddr 0 (.t 82), none, none, [], none⟩,⟨(some 84), .load none (.t 83), none, none, [], none⟩,⟨(some 90), .build [(.int .i64 0), (.str []), (.int .i64 0), (.int .i64 0), (.slc [])] [(2, 1, (.t 84)), (3, 1, (.t 89))], none, none, [], none⟩,⟨none, .store 5 (.t 4) (.t 90), none, none, [], none⟩]
def qc21_44 : AC := .dregs 0 (.node qc21l44t0 (.leaf qc21l44t1) (.leaf qc21l44t2))
def qc21_45 : AC := .seq qc21_44 .ret
def qc21_46 : AC := .cond (.t 79) qc21_45 .skip
def qc21_47 : AC := .seq qc21_43 qc21_46
def qc21_48 : AC := .cond (.t 70) qc21_42 qc21_47
def qc21_49 : AC := .seq qc21_38 qc21_48
def qc21_50 : AC := .cond (.t 59) qc21_37 qc21_49
def qc21_51 : AC := .seq qc21_31 qc21_50
def qc21_52 : AC := .block 1 qc21_51
def qc21_53 : AC := .seq qc21_30 qc21_52
def qc21l54 : List AOp := [⟨(some 91), .mv (.t 0), none, none, [], none⟩,⟨(some 92), .mv (.t 5), none, none, [], none⟩,⟨(some 93), .load (some 5) (.t 3), none, none, [], none⟩,⟨(some 94), .icall 31 [(.t 91), (.t 92), (.t 93)], none, none, [], none⟩,⟨none, .store 5 (.t 4) (.t 94), none, none, [], none⟩]
def qc21_54 : AC := .reg qc21l54
def qc21_55 : AC := .seq qc21_54 .ret
def qc21_56 : AC := .seq qc21_53 qc21_55
def qc21_57 : AC := .seq qc21_29 qc21_56
def qc21_58 : AC := .seq qc21_24 qc21_57
def qc21_59 : AC := .seq qc21_23 qc21_58
def qc21_60 : AC := .seq qc21_5 qc21_59
def qc21_61 : AC := .seq qc21_0 qc21_60
def ac_model_Model_Do : AC := qc21_61
theorem comp_model_Model_Do : compF Try.prog [1000027, 4000028, 1000020, 1000029, 1000031] (drawR Try.prog [1000027, 4000028, 1000020, 1000029, 1000031] Try.f12.ntmps) [] 2 Try.f12 = some (ac_model_Model_Do, [.c 4 (some 5)]) := by kernel_rfl
def U_model_Model_Do := (And.intro (And.intro (And.intro (And.intro (And.intro (And.intro (And.intro @ac_model_Model_Do.eq_1 (@mR _ _ qc21_0.eq_1)) (@mR _ _ qc21_1.eq_1)) (And.intro (And.intro (@mR _ _ qc21_2.eq_1) (@mU _ _ qc21_3.eq_1)) (@mU _ _ qc21_4.eq_1))) (And.intro (And.intro (And.intro (@mU _ _ qc21_5.eq_1) (@mR _ _ qc21_6.eq_1)) (@mR _ _ qc21_7.eq_1)) (And.intro (And.intro (@mR _ _ qc21_8.eq_1) (@mU _ _ qc21_9.eq_1)) (@mR _ _ qc21_10.eq_1)))) (And.intro (And.intro (And.intro (And.intro (@mR _ _ qc21_11.eq_1) (@mU _ _ qc21_12.eq_1)) (@mR _ _ qc21_13.eq_1)) (And.intro (And.intro (@mDN _ _ _ qc21_14.eq_1) (@mU _ _ qc21_15.eq_1)) (@mU _ _ qc21_16.eq_1))) (And.intro (And.intro (And.intro (@mU _ _ qc21_17.eq_1) (@mU _ _ qc21_18.eq_1)) (@mU _ _ qc21_19.eq_1)) (And.intro (@mU _ _ qc21_20.eq_1) (@mU _ _ qc21_21.eq_1))))) (And.intro (And.intro (And.intro (And.intro (And.intro (@mU _ _ qc21_22.eq_1) (@mU _ _ qc21_23.eq_1)) (@mD _ _ _ qc21_24.eq_1)) (And.intro (And.intro (@mR _ _ qc21_25.eq_1) (@mR _ _ qc21_26.eq_1)) (@mU _ _ qc21_27.eq_1))) (And.intro (And.intro (And.intro (@mU _ _ qc21_28.eq_1) (@mU _ _ qc21_29.eq_1)) (@mR _ _ qc21_30.eq_1)) (And.intro (And.intro (@mR _ _ qc21_31.eq_1) (@mR _ _ qc21_32.eq_1)) (@mR _ _ qc21_33.eq_1)))) (And.intro (And.intro (And.intro (And.intro (@mR _ _ qc21_34.eq_1) (@mU _ _ qc21_35.eq_1)) (@mU _ _ qc21_36.eq_1)) (And.intro (And.intro (@mU _ _ qc21_37.eq_1) (@mR _ _ qc21_38.eq_1)) (@mD _ _ _ qc21_39.eq_1))) (And.intro (And.intro (And.intro (@mR _ _ qc21_40.eq_1) (@mU _ _ qc21_41.eq_1)) (@mU _ _ qc21_42.eq_1)) (And.intro (@mR _ _ qc21_43.eq_1) (@mDN _ _ _ qc21_44.eq_1)))))) (And.intro (And.intro (And.intro (And.intro (And.intro (And.intro (@mU _ _ qc21_45.eq_1) (@mU _ _ qc21_46.eq_1)) (@mU _ _ qc21_47.eq_1)) (And.intro (And.intro (@mU _ _ qc21_48.eq_1) (@mU _ _ qc21_49.eq_1)) (@mU _ _ qc21_50.eq_1))) (And.intro (And.intro (And.intro (@mU _ _ qc21_51.eq_1) (@mU _ _ qc21_52.eq_1)) (@mU _ _ qc21_53.eq_1)) (And.intro (And.intro (@mR _ _ qc21_54.eq_1) (@mU _ _ qc21_55.eq_1)) (@mU _ _ qc21_56.eq_1)))) (And.intro (And.intro (And.intro (And.intro (@mU _ _ qc21_57.eq_1) (@mU _ _ qc21_58.eq_1)) (@mU _ _ qc21_59.eq_1)) (And.intro (And.intro (@mU _ _ qc21_60.eq_1) (@mU _ _ qc21_61.eq_1)) @qc21l0.eq_1)) (And.intro (And.intro (And.intro @qc21l1.eq_1 @qc21l2.eq_1) @qc21l6.eq_1) (And.intro @qc21l7.eq_1 @qc21l8.eq_1)))) (And.intro (And.intro (And.intro (And.intro (And.intro @qc21l10.eq_1 @qc21l11.eq_1) @qc21l13.eq_1) (And.intro (And.intro @qc21l24.eq_1 @qc21l25.eq_1) @qc21l26.eq_1)) (And.intro (And.intro (And.intro @qc21l30.eq_1 @qc21l31.eq_1) @qc21l32.eq_1) (And.intro @qc21l33.eq_1 @qc21l34.eq_1))) (And.intro (And.intro (And.intro (And.intro @qc21l38.eq_1 @qc21l39.eq_1) @qc21l40.eq_1) (And.intro (And.intro @qc21l43.eq_1 @qc21l54.eq_1) @qc21l14t0.eq_1)) (And.intro (And.intro (And.intro @qc21l14t1.eq_1 @qc21l14t2.eq_1) @qc21l44t0.eq_1) (And.intro @qc21l44t1.eq_1 @qc21l44t2.eq_1))))))

/- (*scoria/model.Model).Copy -/
def qc13l0 : List AOp := [⟨(some 2), .mv (.k .nilp), none, none, [], none⟩]
def qc13_0 : AC := .reg qc13l0
def qc13l1 : List AOp := [⟨(some 6), .mv (.t 0), none, none, [], none⟩,⟨(some 7), .isn .p false (.t 6), none, none, [], none⟩]
def qc13_1 : AC := .reg qc13l1
def qc13l2 : List AOp := [⟨(some 2), .mv (.k .nilp), none, none, [], none⟩]
def qc13_2 : AC := .reg qc13l2
def qc13_3 : AC := .seq qc13_2 .ret
def qc13_4 : AC := .cond (.t 7) qc13_3 .skip
def qc13_5 : AC := .seq qc13_1 qc13_4
def qc13l6 : List AOp := [⟨(some 8), .mv (.t 0), none, none, [], none⟩,⟨(some 9), .nilck (.t 8), none, none, [], none⟩,⟨(some 10), .faddr 0 (.t 9), none, none, [], none⟩,⟨(some 11), .load none (.t 10), none, none, [], none⟩,⟨(some 12), .icall 10 [(.t 11)], none, none, [], none⟩,⟨(some 3), .mv (.t 12), none, none, [], none⟩]
def qc13_6 : AC := .reg qc13l6
def qc13l7 : List AOp := [⟨(some 13), .mv (.t 0), none, none, [], none⟩,⟨(some 14), .nilck (.t 13), none, none, [], none⟩,⟨(some 15), .faddr 1 (.t 14), none, none, [], none⟩,⟨(some 16), .load none (.t 15), none, none, [], none⟩,⟨(some 17), .mop .rng [(.t 16)], none, none, [], none⟩]
def qc13_7 : AC := .reg qc13l7
def qc13l8 : List AOp := [⟨(some 18), .mop .nxt [(.t 17)], none, none, [], none⟩,⟨(some 19), .ext 0 (.t 18), none, none, [], none⟩]
def qc13_8 : AC := .reg qc13l8
def qc13_9 : AC := .cond (.t 19) .skip (.exit 0)
def qc13l10 : List AOp := [⟨(some 20), .mop .ent [(.t 17)], none, none, [], none⟩,⟨(some 21), .ext 0 (.t 20), none, none, [], none⟩,⟨(some 22), .ext 1 (.t 20), none, none, [], none⟩,⟨(some 4), .mv (.t 21), none, none, [], none⟩,⟨(some 5), .mv (.t 22), none, none, [], none⟩]
def qc13_10 : AC := .reg qc13l10
def qc13l11t0 : List AOp := [⟨(some 32), .mv (.t 5), none, none, [], none⟩,⟨(some 33), .nilck (.t 32), none, none, [], none⟩,⟨(some 34), .faddr 1 (.t 33), none, none, [], none⟩,⟨(some 35), .load none (.t 34), none, none, [0], none⟩]
def qc13l11t1 : List AOp := []
def qc13l11t2 : List AOp := [⟨(some 23), .mv (.t 3), none, none, [], none⟩,⟨(some 24), .nilck (.t 23), none, none, [], none⟩,⟨(some 25), .faddr 1 (.t 24), none, none, [], none⟩,⟨(some 26), .load none (.t 25), none, none, [0], none⟩]
def qc13l11t3 : List AOp := [⟨(some 28), .mv (.t 5), none, none, [], none⟩,⟨(some 29), .nilck (.t 28), none, none, [], none⟩,⟨(some 30), .faddr 0 (.t 29), none, none, [], none⟩,⟨(some 31), .load none (.t 30), none, none, [0], none⟩,⟨(some 36), .icall 42 [(.t 35)], none, none, [0], none⟩,⟨(some 37), .build [(.int .i64 0), .nilm] [(0, 1, (.t 31)), (1, 1, (.t 36))], none, none, [], none⟩,⟨(some 38), .box (.t 37), none, (some 0), [], none⟩,⟨(some 27), .mv (.t 4), none, none, [], none⟩,⟨none, .mop .set [(.t 26), (.t 27), (.t 38)], none, none, [], none⟩]
def qc13l11t4 : List AOp := [⟨(some 36), .icall 42 [(.t 35)], none, none, [0], none⟩,⟨(some 28), .mv (.t 5), none, none, [], none⟩,⟨(some 29), .nilck (.t 28), none, none, [], none⟩,⟨(some 30), .faddr 0 (.t 29), none, none, [], none⟩,⟨(some 31), .load none (.t 30), none, none, [0], none⟩,⟨(some 37), .build [(.int .i64 0), .nilm] [(0, 1, (.t 31)), (1, 1, (.t 36))], none, none, [], none⟩,⟨(some 38), .box (.t 37), none, (some 0), [], none⟩,⟨(some 27), .mv (.t 4), none, none, [], none⟩,⟨none, .mop .set [(.t 26), (.t 27), (.t 38)], none, none, [], none⟩]
def qc13l11t5 : List AOp := [⟨(some 28), .mv (.t 5), none, none, [], none⟩,⟨(some 29), .nilck (.t 28), none, none, [], none⟩,⟨(some 30), .faddr 0 (.t 29), none, none, [], none⟩,⟨(some 31), .load none (.t 30), none, none, [0], none⟩,⟨(some 36), .icall 42 [(.t 35)], none, none, [0], none⟩,⟨(some 23), .mv (.t 3), none, none, [], none⟩,⟨(some 24), .nilck (.t 23), none, none, [], none⟩,⟨(some 25), .faddr 1 (.t 24), none, none, [], none⟩,⟨(some 26), .load none (.t 25), none, none, [0], none⟩,⟨(some 37), .build [(.int .i64 0), .nilm] [(0, 1, (.t 31)), (1, 1, (.t 36))], none, none, [], none⟩,⟨(some 38), .box (.t 37), none, (some 0), [], none⟩,⟨(some 27), .mv (.t 4), none, none, [], none⟩,⟨none, .mop .set [(.t 26), (.t 27), (.t 38)], none, none, [], none⟩]
def qc13l11t6 : List AOp := [⟨(some 36), .icall 42 [(.t 35)], none, none, [0], none⟩,⟨(some 23), .mv (.t 3), none, none, [], none⟩,⟨(some 24), .nilck (.t 23), none, none, [], none⟩,⟨(some 25), .faddr 1 (.t 24), none, none, [], none⟩,⟨(some 26), .load none (.t 25), none, none, [0], none⟩,⟨(some 28), .mv (.t 5), none, none, [], none⟩,⟨(some 29), .nilck (.t 28), none, none, [], none⟩,⟨(some 30), .faddr 0 (.t 29), none, none, [], none⟩,⟨(some 31), .load none (.t 30), none, none, [0], none⟩,⟨(some 37), .build [(.int .i64 0), .nilm] [(0, 1, (.t 31)), (1, 1, (.t 36))], none, none, [], none⟩,⟨(some 38), .box (.t 37), none, (some 0), [], none⟩,⟨(some 27), .mv (.t 4), none, none, [], none⟩,⟨none, .mop .set [(.t 26), (.t 27), (.t 38)], none, none, [], none⟩]
def qc13_11 : AC := .dregs 1 (.node qc13l11t0 (.node qc13l11t1 (.node qc13l11t2 (.leaf qc13l11t3) (.leaf qc13l11t4)) (.leaf qc13l11t5)) (.leaf qc13l11t6))
def qc13_12 : AC := .seq qc13_10 qc13_11
def qc13_13 : AC := .block 1 qc13_12
def qc13_14 : AC := .seq qc13_9 qc13_13
def qc13_15 : AC := .seq qc13_8 qc13_14
def qc13_16 : AC := .loop [3, 17] 1000000000 qc13_15
def qc13_17 : AC := .block 0 qc13_16
def qc13_18 : AC := .seq qc13_7 qc13_17
def qc13l19 : List AOp := [⟨(some 39), .mv (.t 3), none, none, [], none⟩,⟨(some 2), .mv (.t 39), none, none, [], none⟩]
def qc13_19 : AC := .reg qc13l19
def qc13_20 : AC := .seq qc13_19 .ret
def qc13_21 : AC := .seq qc13_18 qc13_20
def qc13_22 : AC := .seq qc13_6 qc13_21
def qc13_23 : AC := .seq qc13_5 qc13_22
def qc13_24 : AC := .seq qc13_0 qc13_23
def ac_model_Model_Copy : AC := qc13_24
theorem comp_model_Model_Copy : compF Try.prog [1000010, 1000042] (drawR Try.prog [1000010, 1000042] Try.f19.ntmps) [([3, 17], 1000000000)] 1 Try.f19 = some (ac_model_Model_Copy, [.t 2]) := by kernel_rfl
def U_model_Model_Copy := (And.intro (And.intro (And.intro (And.intro (And.intro (And.intro @ac_model_Model_Copy.eq_1 (@mR _ _ qc13_0.eq_1)) (@mR _ _ qc13_1.eq_1)) (And.intro (And.intro (@mR _ _ qc13_2.eq_1) (@mU _ _ qc13_3.eq_1)) (@mU _ _ qc13_4.eq_1))) (And.intro (And.intro (And.intro (@mU _ _ qc13_5.eq_1) (@mR _ _ qc13_6.eq_1)) (@mR _ _ qc13_7.eq_1)) (And.intro (@mR _ _ qc13_8.eq_1) (@mU _ _ qc13_9.eq_1)))) (And.intro (And.intro (And.intro (And.intro (@mR _ _ qc13_10.eq_1) (@mDN _ _ _ qc13_11.eq_1)) (@mU _ _ qc13_12.eq_1)) (And.intro (@mU _ _ qc13_13.eq_1) (@mU _ _ qc13_14.eq_1))) (And.intro (And.intro (And.intro (@mU _ _ qc13_15.eq_1) (@mU _ _ qc13_16.eq_1)) (@mU _ _ qc13_17.eq_1)) (And.intro (@mU _ _ qc13_18.eq_1) (@mR _ _ qc13_19.eq_1))))) (And.intro (And.intro (And.intro (And.intro (And.intro (@mU _ _ qc13_20.eq_1) (@mU _ _ qc13_21.eq_1)) (@mU _ _ qc13_22.eq_1)) (And.intro (@mU _ _ qc13_23.eq_1) (@mU _ _ qc13_24.eq_1))) (And.intro (And.intro (And.intro @qc13l0.eq_1 @qc13l1.eq_1) @qc13l2.eq_1) (And.intro @qc13l6.eq_1 @qc13l7.eq_1))) (And.intro (And.intro (And.intro (And.intro @qc13l8.eq_1 @qc13l10.eq_1) @qc13l19.eq_1) (And.intro @qc13l11t0.eq_1 @qc13l11t1.eq_1)) (And.intro (And.intro (And.intro @qc13l11t2.eq_1 @qc13l11t3.eq_1) @qc13l11t4.eq_1) (And.intro @qc13l11t5.eq_1 @qc13l11t6.eq_1)))))

/- (*scoria/model.Model).IDs -/
def qc18l0 : List AOp := [⟨(some 2), .mv (.k (.slc [])), none, none, [], none⟩]
def qc18_0 : AC := .reg qc18l0
def qc18l1 : List AOp := [⟨(some 3), .mv (.t 0), none, none, [], none⟩,⟨(some 4), .isn .p false (.t 3), none, none, [], none⟩]
def qc18_1 : AC := .reg qc18l1
def qc18l2 : List AOp := [⟨(some 2), .mv (.k (.slc [])), none, none, [], none⟩]
def qc18_2 : AC := .reg qc18l2
def qc18_3 : AC := .seq qc18_2 .ret
def qc18_4 : AC := .cond (.t 4) qc18_3 .skip
def qc18_5 : AC := .seq qc18_1 qc18_4
def qc18l6 : List AOp := [⟨(some 5), .mv (.t 0), none, none, [], none⟩,⟨(some 6), .nilck (.t 5), none, none, [], none⟩,⟨(some 7), .faddr 1 (.t 6), none, none, [], none⟩,⟨(some 8), .load none (.t 7), none, none, [], none⟩,⟨(some 9), .icall 44 [(.t 8)], none, none, [], none⟩,⟨(some 10), .icall 43 [(.t 9)], none, none, [], none⟩,⟨(some 2), .mv (.t 10), none, none, [], none⟩]
def qc18_6 : AC := .reg qc18l6
def qc18_7 : AC := .seq qc18_6 .ret
def qc18_8 : AC := .seq qc18_5 qc18_7
def qc18_9 : AC := .seq qc18_0 qc18_8
def ac_model_Model_IDs : AC := qc18_9
theorem comp_model_Model_IDs : compF Try.prog [1000044, 1000043] (drawR Try.prog [1000044, 1000043] Try.f20.ntmps) [] 1 Try.f20 = some (ac_model_Model_IDs, [.t 2]) := by kernel_rfl
def U_model_Model_IDs := (And.intro (And.intro (And.intro (And.intro @ac_model_Model_IDs.eq_1 (@mR _ _ qc18_0.eq_1)) (And.intro (@mR _ _ qc18_1.eq_1) (@mR _ _ qc18_2.eq_1))) (And.intro (And.intro (@mU _ _ qc18_3.eq_1) (@mU _ _ qc18_4.eq_1)) (And.intro (@mU _ _ qc18_5.eq_1) (@mR _ _ qc18_6.eq_1)))) (And.intro (And.intro (And.intro (@mU _ _ qc18_7.eq_1) (@mU _ _ qc18_8.eq_1)) (And.intro (@mU _ _ qc18_9.eq_1) @qc18l0.eq_1)) (And.intro (And.intro @qc18l1.eq_1 @qc18l2.eq_1) @qc18l6.eq_1)))

/- (*scoria/model.Model).Sectors -/
def qc4l0 : List AOp := [⟨(some 4), .mv (.k (.slc [])), none, none, [], none⟩]
def qc4_0 : AC := .reg qc4l0
def qc4l1 : List AOp := [⟨(some 5), .mv (.t 0), none, none, [], none⟩,⟨(some 6), .isn .p false (.t 5), none, none, [], none⟩,⟨(some 7), .mv (.t 6), none, none, [], none⟩,⟨(some 8), .mv (.t 0), (some (7, false)), none, [], none⟩,⟨(some 9), .nilck (.t 8), (some (7, false)), none, [], none⟩,⟨(some 10), .faddr 1 (.t 9), (some (7, false)), none, [], none⟩,⟨(some 11), .load none (.t 10), (some (7, false)), none, [], none⟩,⟨(some 12), .mv (.t 1), (some (7, false)), none, [], none⟩,⟨(some 13), .mop (.get false .nilp) [(.t 11), (.t 12)], (some (7, false)), none, [], none⟩,⟨(some 14), .isn .p false (.t 13), (some (7, false)), none, [], none⟩,⟨(some 15), .pick (.t 7) (.k (.bool true)) (.t 14), none, none, [], none⟩]
def qc4_1 : AC := .reg qc4l1
def qc4l2 : List AOp := [⟨(some 4), .mv (.k (.slc [])), none, none, [], none⟩]
def qc4_2 : AC := .reg qc4l2
def qc4_3 : AC := .seq qc4_2 .ret
def qc4_4 : AC := .cond (.t 15) qc4_3 .skip
def qc4_5 : AC := .seq qc4_1 qc4_4
def qc4l6 : List AOp := [⟨(some 16), .mv (.t 0), none, none, [], none⟩,⟨(some 17), .nilck (.t 16), none, none, [], none⟩,⟨(some 18), .faddr 1 (.t 17), none, none, [], none⟩,⟨(some 19), .load none (.t 18), none, none, [], none⟩,⟨(some 20), .mv (.t 1), none, none, [], none⟩,⟨(some 21), .mop (.get false .nilp) [(.t 19), (.t 20)], none, none, [], none⟩,⟨(some 22), .nilck (.t 21), none, none, [], none⟩,⟨(some 23), .faddr 1 (.t 22), none, none, [], none⟩,⟨(some 24), .load none (.t 23), none, none, [], none⟩,⟨(some 25), .icall 45 [(.t 24)], none, none, [], none⟩,⟨(some 26), .icall 43 [(.t 25)], none, none, [], none⟩,⟨(some 4), .mv (.t 26), none, none, [], none⟩]
def qc4_6 : AC := .reg qc4l6
def qc4_7 : AC := .seq qc4_6 .ret
def qc4_8 : AC := .seq qc4_5 qc4_7
def qc4_9 : AC := .seq qc4_0 qc4_8
def ac_model_Model_Sectors : AC := qc4_9
theorem comp_model_Model_Sectors : compF Try.prog [1000045, 1000043] (drawR Try.prog [1000045, 1000043] Try.f21.ntmps) [] 2 Try.f21 = some (ac_model_Model_Sectors, [.t 4]) := by kernel_rfl
def U_model_Model_Sectors := (And.intro (And.intro (And.intro (And.intro @ac_model_Model_Sectors.eq_1 (@mR _ _ qc4_0.eq_1)) (And.intro (@mR _ _ qc4_1.eq_1) (@mR _ _ qc4_2.eq_1))) (And.intro (And.intro (@mU _ _ qc4_3.eq_1) (@mU _ _ qc4_4.eq_1)) (And.intro (@mU _ _ qc4_5.eq_1) (@mR _ _ qc4_6.eq_1)))) (And.intro (And.intro (And.intro (@mU _ _ qc4_7.eq_1) (@mU _ _ qc4_8.eq_1)) (And.intro (@mU _ _ qc4_9.eq_1) @qc4l0.eq_1)) (And.intro (And.intro @qc4l1.eq_1 @qc4l2.eq_1) @qc4l6.eq_1)))

/- (*scoria/model.Model).Same -/
def qc14l0 : List AOp := [⟨(some 4), .mv (.k (.bool false)), none, none, [], none⟩]
def qc14_0 : AC := .reg qc14l0
def qc14l1 : List AOp := [⟨(some 5), .mv (.t 0), none, none, [], none⟩,⟨(some 6), .isn .p false (.t 5), none, none, [], none⟩,⟨(some 7), .mv (.t 6), none, none, [], none⟩,⟨(some 8), .mv (.t 1), (some (7, false)), none, [], none⟩,⟨(some 9), .isn .p false (.t 8), (some (7, false)), none, [], none⟩,⟨(some 10), .pick (.t 7) (.k (.bool true)) (.t 9), none, none, [], none⟩]
def qc14_1 : AC := .reg qc14l1
def qc14l2 : List AOp := [⟨(some 11), .mv (.t 0), none, none, [], none⟩,⟨(some 12), .isn .p false (.t 11), none, none, [], none⟩,⟨(some 13), .mv (.t 12), none, none, [], none⟩,⟨(some 14), .mv (.t 1), (some (13, true)), none, [], none⟩,⟨(some 15), .isn .p false (.t 14), (some (13, true)), none, [], none⟩,⟨(some 16), .pick (.t 13) (.t 15) (.k (.bool false)), none, none, [], none⟩,⟨(some 4), .mv (.t 16), none, none, [], none⟩]
def qc14_2 : AC := .reg qc14l2
def qc14_3 : AC := .seq qc14_2 .ret
def qc14_4 : AC := .cond (.t 10) qc14_3 .skip
def qc14_5 : AC := .seq qc14_1 qc14_4
def qc14l6 : List AOp := [⟨(some 17), .mv (.t 0), none, none, [], none⟩,⟨(some 18), .nilck (.t 17), none, none, [], none⟩,⟨(some 19), .faddr 0 (.t 18), none, none, [], none⟩,⟨(some 20), .load none (.t 19), none, none, [], none⟩,⟨(some 21), .mv (.t 1), none, none, [], none⟩,⟨(some 22), .nilck (.t 21), none, none, [], none⟩,⟨(some 23), .faddr 0 (.t 22), none, none, [], none⟩,⟨(some 24), .load none (.t 23), none, none, [], none⟩,⟨(some 25), .bin .eql (.t 20) (.t 24), none, none, [], none⟩,⟨(some 26), .mv (.t 25), none, none, [], none⟩,⟨(some 27), .mv (.t 0), (some (26, true)), none, [], none⟩,⟨(some 28), .nilck (.t 27), (some (26, true)), none, [], none⟩,⟨(some 29), .faddr 1 (.t 28), (some (26, true)), none, [], none⟩,⟨(some 30), .load none (.t 29), (some (26, true)), none, [], none⟩,⟨(some 31), .mv (.t 1), (some (26, true)), none, [], none⟩,⟨(some 32), .nilck (.t 31), (some (26, true)), none, [], none⟩,⟨(some 33), .faddr 1 (.t 32), (some (26, true)), none, [], none⟩,⟨(some 34), .load none (.t 33), (some (26, true)), none, [], none⟩,⟨(some 35), .icall 46 [(.t 30), (.t 34), (.k (.fn (.func 47) [] []))], (some (26, true)), none, [], none⟩,⟨(some 36), .pick (.t 26) (.t 35) (.k (.bool false)), none, none, [], none⟩,⟨(some 4), .mv (.t 36), none, none, [], none⟩]
def qc14_6 : AC := .dreg 0 qc14l6
def qc14_7 : AC := .seq qc14_6 .ret
def qc14_8 : AC := .seq qc14_5 qc14_7
def qc14_9 : AC := .seq qc14_0 qc14_8
def ac_model_Model_Same : AC := qc14_9
theorem comp_model_Model_Same : compF Try.prog [1000046] (drawR Try.prog [1000046] Try.f22.ntmps) [] 2 Try.f22 = some (ac_model_Model_Same, [.t 4]) := by kernel_rfl
def U_model_Model_Same := (And.intro (And.intro (And.intro (And.intro @ac_model_Model_Same.eq_1 (@mR _ _ qc14_0.eq_1)) (And.intro (@mR _ _ qc14_1.eq_1) (@mR _ _ qc14_2.eq_1))) (And.intro (And.intro (@mU _ _ qc14_3.eq_1) (@mU _ _ qc14_4.eq_1)) (And.intro (@mU _ _ qc14_5.eq_1) (@mD _ _ _ qc14_6.eq_1)))) (And.intro (And.intro (And.intro (@mU _ _ qc14_7.eq_1) (@mU _ _ qc14_8.eq_1)) (And.intro (@mU _ _ qc14_9.eq_1) @qc14l0.eq_1)) (And.intro (And.intro @qc14l1.eq_1 @qc14l2.eq_1) @qc14l6.eq_1)))

/- scoria/req.Name -/
def qc27l0 : List AOp := [⟨(some 2), .mv (.k (.str [])), none, none, [], none⟩]
def qc27_0 : AC := .reg qc27l0
def qc27l1 : List AOp := [⟨(some 3), .mv (.t 0), none, none, [], none⟩,⟨(some 4), .bin .lss (.t 3) (.k (.int .i64 1)), none, none, [], none⟩,⟨(some 5), .mv (.t 4), none, none, [], none⟩,⟨(some 6), .mv (.t 0), (some (5, false)), none, [], none⟩,⟨(some 7), .bin .gtr (.t 6) (.k (.int .i64 10)), (some (5, false)), none, [], none⟩,⟨(some 8), .pick (.t 5) (.k (.bool true)) (.t 7), none, none, [], none⟩]
def qc27_1 : AC := .reg qc27l1
def qc27l2 : List AOp := [⟨(some 2), .mv (.k (.str [63])), none, none, [], none⟩]
def qc27_2 : AC := .reg qc27l2
def qc27_3 : AC := .seq qc27_2 .ret
def qc27_4 : AC := .cond (.t 8) qc27_3 .skip
def qc27_5 : AC := .seq qc27_1 qc27_4
def qc27l6 : List AOp := [⟨(some 9), .build (List.replicate 11 (.str [])) [(0, 1, (.k (.str []))), (1, 1, (.k (.str [99, 114, 101, 97, 116, 101]))), (2, 1, (.k (.str [114, 101, 115, 105, 122, 101]))), (3, 1, (.k (.str [100, 101, 108, 101, 116, 101]))), (4, 1, (.k (.str [119, 114, 105, 116, 101]))), (5, 1, (.k (.str [122, 101, 114, 111]))), (6, 1, (.k (.str [116, 114, 105, 109]))), (7, 1, (.k (.str [114, 101, 97, 100]))), (8, 1, (.k (.str [102, 108, 117, 115, 104]))), (9, 1, (.k (.str [105, 110, 102, 111]))), (10, 1, (.k (.str [108, 105, 115, 116])))], none, none, [], none⟩,⟨(some 10), .mv (.t 0), none, none, [], none⟩,⟨(some 11), .idxa none 1 11 (.t 9) (.t 10), none, none, [], none⟩,⟨(some 2), .mv (.t 11), none, none, [], none⟩]
def qc27_6 : AC := .reg qc27l6
def qc27_7 : AC := .seq qc27_6 .ret
def qc27_8 : AC := .seq qc27_5 qc27_7
def qc27_9 : AC := .seq qc27_0 qc27_8
def ac_req_Name : AC := qc27_9
theorem comp_req_Name : compF Try.prog [] (drawR Try.prog [] Try.f24.ntmps) [] 1 Try.f24 = some (ac_req_Name, [.t 2]) := by kernel_rfl
def U_req_Name := (And.intro (And.intro (And.intro (And.intro @ac_req_Name.eq_1 (@mR _ _ qc27_0.eq_1)) (And.intro (@mR _ _ qc27_1.eq_1) (@mR _ _ qc27_2.eq_1))) (And.intro (And.intro (@mU _ _ qc27_3.eq_1) (@mU _ _ qc27_4.eq_1)) (And.intro (@mU _ _ qc27_5.eq_1) (@mR _ _ qc27_6.eq_1)))) (And.intro (And.intro (And.intro (@mU _ _ qc27_7.eq_1) (@mU _ _ qc27_8.eq_1)) (And.intro (@mU _ _ qc27_9.eq_1) @qc27l0.eq_1)) (And.intro (And.intro @qc27l1.eq_1 @qc27l2.eq_1) @qc27l6.eq_1)))

/- scoria/model.sized -/
def qc22l0 : List AOp := [⟨(some 2), .mv (.k (.bool false)), none, none, [], none⟩]
def qc22_0 : AC := .reg qc22l0
def qc22l1 : List AOp := [⟨(some 3), .mv (.t 0), none, none, [], none⟩,⟨(some 4), .bin .geq (.t 3) (.k (.int .i64 0)), none, none, [], none⟩,⟨(some 5), .mv (.t 4), none, none, [], none⟩,⟨(some 6), .mv (.t 0), (some (5, true)), none, [], none⟩,⟨(some 7), .bin .leq (.t 6) (.k (.int .i64 16777216)), (some (5, true)), none, [], none⟩,⟨(some 8), .pick (.t 5) (.t 7) (.k (.bool false)), none, none, [], none⟩,⟨(some 2), .mv (.t 8), none, none, [], none⟩]
def qc22_1 : AC := .reg qc22l1
def qc22_2 : AC := .seq qc22_1 .ret
def qc22_3 : AC := .seq qc22_0 qc22_2
def ac_model_sized : AC := qc22_3
theorem comp_model_sized : compF Try.prog [] (drawR Try.prog [] Try.f25.ntmps) [] 1 Try.f25 = some (ac_model_sized, [.t 2]) := by kernel_rfl
def U_model_sized := (And.intro (And.intro (And.intro @ac_model_sized.eq_1 (@mR _ _ qc22_0.eq_1)) (And.intro (@mR _ _ qc22_1.eq_1) (@mU _ _ qc22_2.eq_1))) (And.intro (And.intro (@mU _ _ qc22_3.eq_1) @qc22l0.eq_1) @qc22l1.eq_1))

/- scoria/model.fail -/
def qc25l0 : List AOp := [⟨(some 2), .alloc [(.int .i64 0), (.str []), (.int .i64 0), (.int .i64 0), (.slc [])], none, none, [], none⟩]
def qc25_0 : AC := .reg qc25l0
def qc25l1 : List AOp := [⟨(some 3), .mv (.t 0), none, none, [], none⟩,⟨(some 4), .build [(.int .i64 0), (.str []), (.int .i64 0), (.int .i64 0), (.slc [])] [(0, 1, (.t 3))], none, none, [], none⟩,⟨none, .store 5 (.t 2) (.t 4), none, none, [], none⟩]
def qc25_1 : AC := .reg qc25l1
def qc25_2 : AC := .seq qc25_1 .ret
def qc25_3 : AC := .seq qc25_0 qc25_2
def ac_model_fail : AC := qc25_3
theorem comp_model_fail : compF Try.prog [] (drawR Try.prog [] Try.f26.ntmps) [] 1 Try.f26 = some (ac_model_fail, [.c 2 (some 5)]) := by kernel_rfl
def U_model_fail := (And.intro (And.intro (And.intro @ac_model_fail.eq_1 (@mR _ _ qc25_0.eq_1)) (And.intro (@mR _ _ qc25_1.eq_1) (@mU _ _ qc25_2.eq_1))) (And.intro (And.intro (@mU _ _ qc25_3.eq_1) @qc25l0.eq_1) @qc25l1.eq_1))

/- (*scoria/model.Model).create -/
def qc7l0 : List AOp := [⟨(some 3), .box (.t 1), none, none, [], none⟩,⟨(some 4), .alloc [(.int .i64 0), (.str []), (.int .i64 0), (.int .i64 0), (.slc [])], none, none, [], none⟩]
def qc7_0 : AC := .reg qc7l0
def qc7l1 : List AOp := [⟨(some 6), .faddr 1 (.t 3), none, none, [], none⟩,⟨(some 7), .load none (.t 6), none, none, [], none⟩,⟨(some 8), .bin .lss (.t 7) (.k (.int .i64 1)), none, none, [], none⟩,⟨(some 9), .mv (.t 8), none, none, [], none⟩,⟨(some 10), .faddr 1 (.t 3), (some (9, false)), none, [], none⟩,⟨(some 11), .load none (.t 10), (some (9, false)), none, [], none⟩,⟨(some 12), .bin .gtr (.t 11) (.k (.int .i64 65535)), (some (9, false)), none, [], none⟩,⟨(some 13), .pick (.t 9) (.k (.bool true)) (.t 12), none, none, [], none⟩,⟨(some 14), .mv (.t 13), none, none, [], none⟩,⟨(some 15), .faddr 3 (.t 3), (some (14, false)), none, [], none⟩,⟨(some 16), .load none (.t 15), (some (14, false)), none, [], none⟩,⟨(some 17), .call false 25 [(.t 16)], (some (14, false)), none, [], none⟩,⟨(some 18), .un .not (.t 17), (some (14, false)), none, [], none⟩,⟨(some 19), .pick (.t 14) (.k (.bool true)) (.t 18), none, none, [], none⟩,⟨(some 5), .mv (.t 19), none, none, [], none⟩]
def qc7_1 : AC := .reg qc7l1
def qc7l2 : List AOp := [⟨(some 20), .call false 26 [(.k (.int .i64 1))], none, none, [], none⟩,⟨none, .store 5 (.t 4) (.t 20), none, none, [], none⟩]
def qc7_2 : AC := .reg qc7l2
def qc7_3 : AC := .seq qc7_2 .ret
def qc7l4 : List AOp := [⟨(some 22), .mv (.t 0), none, none, [], none⟩,⟨(some 23), .nilck (.t 22), none, none, [], none⟩,⟨(some 24), .faddr 1 (.t 23), none, none, [], none⟩,⟨(some 25), .load none (.t 24), none, none, [], none⟩,⟨(some 26), .faddr 1 (.t 3), none, none, [], none⟩,⟨(some 27), .load none (.t 26), none, none, [], none⟩,⟨(some 28), .mop (.get false .nilp) [(.t 25), (.t 27)], none, none, [], none⟩,⟨(some 29), .isn .p true (.t 28), none, none, [], none⟩,⟨(some 21), .mv (.t 29), none, none, [], none⟩]
def qc7_4 : AC := .dreg 0 qc7l4
def qc7l5 : List AOp := [⟨(some 30), .call false 26 [(.k (.int .i64 7))], none, none, [], none⟩,⟨none, .store 5 (.t 4) (.t 30), none, none, [], none⟩]
def qc7_5 : AC := .reg qc7l5
def qc7_6 : AC := .seq qc7_5 .ret
def qc7l7 : List AOp := [⟨(some 32), .mv (.t 0), none, none, [], none⟩,⟨(some 33), .nilck (.t 32), none, none, [], none⟩,⟨(some 34), .faddr 1 (.t 33), none, none, [], none⟩,⟨(some 35), .load none (.t 34), none, none, [], none⟩,⟨(some 36), .mop .len [(.t 35)], none, none, [], none⟩,⟨(some 37), .bin .geq (.t 36) (.k (.int .i64 8)), none, none, [], none⟩,⟨(some 31), .mv (.t 37), none, none, [], none⟩]
def qc7_7 : AC := .reg qc7l7
def qc7l8 : List AOp := [⟨(some 38), .call false 26 [(.k (.int .i64 70))], none, none, [], none⟩,⟨none, .store 5 (.t 4) (.t 38), none, none, [], none⟩]
def qc7_8 : AC := .reg qc7l8
def qc7_9 : AC := .seq qc7_8 .ret
def qc7_10 : AC := .cond (.t 31) qc7_9 .skip
def qc7_11 : AC := .seq qc7_7 qc7_10
def qc7_12 : AC := .cond (.t 21) qc7_6 qc7_11
def qc7_13 : AC := .seq qc7_4 qc7_12
def qc7_14 : AC := .cond (.t 5) qc7_3 qc7_13
def qc7_15 : AC := .seq qc7_1 qc7_14
def qc7_16 : AC := .block 0 qc7_15
def qc7l17t0 : List AOp := []
def qc7l17t1 : List AOp := []
def qc7l17t2 : List AOp := []
def qc7l17t3 : List AOp := [⟨(some 39), .mv (.t 0), none, none, [], none⟩,⟨(some 40), .nilck (.t 39), none, none, [], none⟩,⟨(some 41), .faddr 1 (.t 40), none, none, [], none⟩,⟨(some 42), .load none (.t 41), none, none, [0], none⟩]
def qc7l17t4 : List AOp := []
def qc7l17t5 : List AOp := [⟨(some 43), .faddr 1 (.t 3), none, none, [], none⟩,⟨(some 44), .load none (.t 43), none, none, [0], none⟩]
def qc7l17t6 : List AOp := [⟨(some 45), .faddr 3 (.t 3), none, none, [], none⟩,⟨(some 46), .load none (.t 45), none, none, [0], none⟩,⟨(some 47), .mop .mk [], none, none, [0], none⟩,⟨(some 48), .build [(.int .i64 0), .nilm] [(0, 1, (.t 46)), (1, 1, (.t 47))], none, none, [], none⟩,⟨(some 49), .box (.t 48), none, (some 0), [], none⟩,⟨none, .mop .set [(.t 42), (.t 44), (.t 49)], none, none, [], none⟩]
def qc7l17t7 : List AOp := [⟨(some 47), .mop .mk [], none, none, [0], none⟩,⟨(some 45), .faddr 3 (.t 3), none, none, [], none⟩,⟨(some 46), .load none (.t 45), none, none, [0], none⟩,⟨(some 48), .build [(.int .i64 0), .nilm] [(0, 1, (.t 46)), (1, 1, (.t 47))], none, none, [], none⟩,⟨(some 49), .box (.t 48), none, (some 0), [], none⟩,⟨none, .mop .set [(.t 42), (.t 44), (.t 49)], none, none, [], none⟩]
def qc7l17t8 : List AOp := [⟨(some 45), .faddr 3 (.t 3), none, none, [], none⟩,⟨(some 46), .load none (.t 45), none, none, [0], none⟩,⟨(some 47), .mop .mk [], none, none, [0], none⟩,⟨(some 43), .faddr 1 (.t 3), none, none, [], none⟩,⟨(some 44), .load none (.t 43), none, none, [0], none⟩,⟨(some 48), .build [(.int .i64 0), .nilm] [(0, 1, (.t 46)), (1, 1, (.t 47))], none, none, [], none⟩,⟨(some 49), .box (.t 48), none, (some 0), [], none⟩,⟨none, .mop .set [(.t 42), (.t 44), (.t 49)], none, none, [], none⟩]
def qc7l17t9 : List AOp := [⟨(some 47), .mop .mk [], none, none, [0], none⟩,⟨(some 43), .faddr 1 (.t 3), none, none, [], none⟩,⟨(some 44), .load none (.t 43), none, none, [0], none⟩,⟨(some 45), .faddr 3 (.t 3), none, none, [], none⟩,⟨(some 46), .load none (.t 45), none, none, [0], none⟩,⟨(some 48), .build [(.int .i64 0), .nilm] [(0, 1, (.t 46)), (1, 1, (.t 47))], none, none, [], none⟩,⟨(some 49), .box (.t 48), none, (some 0), [], none⟩,⟨none, .mop .set [(.t 42), (.t 44), (.t 49)], none, none, [], none⟩]
def qc7l17t10 : List AOp := [⟨(some 43), .faddr 1 (.t 3), none, none, [], none⟩,⟨(some 44), .load none (.t 43), none, none, [0], none⟩]
def qc7l17t11 : List AOp := [⟨(some 45), .faddr 3 (.t 3), none, none, [], none⟩,⟨(some 46), .load none (.t 45), none, none, [0], none⟩,⟨(some 47), .mop .mk [], none, none, [0], none⟩,⟨(some 39), .mv (.t 0), none, none, [], none⟩,⟨(some 40), .nilck (.t 39), none, none, [], none⟩,⟨(some 41), .faddr 1 (.t 40), none, none, [], none⟩,⟨(some 42), .load none (.t 41), none, none, [0], none⟩,⟨(some 48), .build [(.int .i64 0), .nilm] [(0, 1, (.t 46)), (1, 1, (.t 47))], none, none, [], none⟩,⟨(some 49), .box (.t 48), none, (some 0), [], none⟩,⟨none, .mop .set [(.t 42), (.t 44), (.t 49)], none, none, [], none⟩]
def qc7l17t12 : List AOp := [⟨(some 47), .mop .mk [], none, none, [0], none⟩,⟨(some 39), .mv (.t 0), none, none, [], none⟩,⟨(some 40), .nilck (.t 39), none, none, [], none⟩,⟨(some 41), .faddr 1 (.t 40), none, none, [], none⟩,⟨(some 42), .load none (.t 41), none, none, [0], none⟩,⟨(some 45), .faddr 3 (.t 3), none, none, [], none⟩,⟨(some 46), .load none (.t 45), none, none, [0], none⟩,⟨(some 48), .build [(.int .i64 0), .nilm] [(0, 1, (.t 46)), (1, 1, (.t 47))], none, none, [], none⟩,⟨(some 49), .box (.t 48), none, (some 0), [], none⟩,⟨none, .mop .set [(.t 42), (.t 44), (.t 49)], none, none, [], none⟩]
def qc7l17t13 : List AOp := [⟨(some 45), .faddr 3 (.t 3), none, none, [], none⟩,⟨(some 46), .load none (.t 45), none, none, [0], none⟩,⟨(some 47), .mop .mk [], none, none, [0], none⟩,⟨(some 39), .mv (.t 0), none, none, [], none⟩,⟨(some 40), .nilck (.t 39), none, none, [], none⟩,⟨(some 41), .faddr 1 (.t 40), none, none, [], none⟩,⟨(some 42), .load none (.t 41), none, none, [0], none⟩,⟨(some 43), .faddr 1 (.t 3), none, none, [], none⟩,⟨(some 44), .load none (.t 43), none, none, [0], none⟩,⟨(some 48), .build [(.int .i64 0), .nilm] [(0, 1, (.t 46)), (1, 1, (.t 47))], none, none, [], none⟩,⟨(some 49), .box (.t 48), none, (some 0), [], none⟩,⟨none, .mop .set [(.t 42), (.t 44), (.t 49)], none, none, [], none⟩]
def qc7l17t14 : List AOp := [⟨(some 47), .mop .mk [], none, none, [0], none⟩,⟨(some 39), .mv (.t 0), none, none, [], none⟩,⟨(some 40), .nilck (.t 39), none, none, [], none⟩,⟨(some 41), .faddr 1 (.t 40), none, none, [], none⟩,⟨(some 42), .load none (.t 41), none, none, [0], none⟩,⟨(some 43), .faddr 1 (.t 3), none, none, [], none⟩,⟨(some 44), .load none (.t 43), none, none, [0], none⟩,⟨(some 45), .faddr 3 (.t 3), none, none, [], none⟩,⟨(some 46), .load none (.t 45), none, none, [0], none⟩,⟨(some 48), .build [(.int .i64 0), .nilm] [(0, 1, (.t 46)), (1, 1, (.t 47))], none, none, [], none⟩,⟨(some 49), .box (.t 48), none, (some 0), [], none⟩,⟨none, .mop .set [(.t 42), (.t 44), (.t 49)], none, none, [], none⟩]
def qc7_17 : AC := .dregs 1 (.node qc7l17t0 (.node qc7l17t1 (.node qc7l17t2 (.node qc7l17t3 (.node qc7l17t4 (.node qc7l17t5 (.leaf qc7l17t6) (.leaf qc7l17t7)) (.leaf qc7l17t8)) (.leaf qc7l17t9)) (.node qc7l17t10 (.leaf qc7l17t11) (.leaf qc7l17t12))) (.leaf qc7l17t13)) (.leaf qc7l17t14))
def qc7l18 : List AOp := [⟨(some 50), .build [(.int .i64 0), (.str []), (.int .i64 0), (.int .i64 0), (.slc [])] [], none, none, [], none⟩,⟨none, .store 5 (.t 4) (.t 50), none, none, [], none⟩]
def qc7_18 : AC := .reg qc7l18
def qc7_19 : AC := .seq qc7_18 .ret
def qc7_20 : AC := .seq qc7_17 qc7_19
def qc7_21 : AC := .seq qc7_16 qc7_20
def qc7_22 : AC := .seq qc7_0 qc7_21
def ac_model_Model_create : AC := qc7_22
theorem comp_model_Model_create : compF Try.prog [] (drawR Try.prog [] Try.f27.ntmps) [] 2 Try.f27 = some (ac_model_Model_create, [.c 4 (some 5)]) := by kernel_rfl
def U_model_Model_create := (And.intro (And.intro (And.intro (And.intro (And.intro (And.intro @ac_model_Model_create.eq_1 (@mR _ _ qc7_0.eq_1)) (@mR _ _ qc7_1.eq_1)) (And.intro (And.intro (@mR _ _ qc7_2.eq_1) (@mU _ _ qc7_3.eq_1)) (@mD _ _ _ qc7_4.eq_1))) (And.intro (And.intro (And.intro (@mR _ _ qc7_5.eq_1) (@mU _ _ qc7_6.eq_1)) (@mR _ _ qc7_7.eq_1)) (And.intro (And.intro (@mR _ _ qc7_8.eq_1) (@mU _ _ qc7_9.eq_1)) (@mU _ _ qc7_10.eq_1)))) (And.intro (And.intro (And.intro (And.intro (@mU _ _ qc7_11.eq_1) (@mU _ _ qc7_12.eq_1)) (@mU _ _ qc7_13.eq_1)) (And.intro (And.intro (@mU _ _ qc7_14.eq_1) (@mU _ _ qc7_15.eq_1)) (@mU _ _ qc7_16.eq_1))) (And.intro (And.intro (And.intro (@mDN _ _ _ qc7_17.eq_1) (@mR _ _ qc7_18.eq_1)) (@mU _ _ qc7_19.eq_1)) (And.intro (And.intro (@mU _ _ qc7_20.eq_1) (@mU _ _ qc7_21.eq_1)) (@mU _ _ qc7_22.eq_1))))) (And.intro (And.intro (And.intro (And.intro (And.intro @qc7l0.eq_1 @qc7l1.eq_1) @qc7l2.eq_1) (And.intro (And.intro @qc7l4.eq_1 @qc7l5.eq_1) @qc7l7.eq_1)) (And.intro (And.intro (And.intro @qc7l8.eq_1 @qc7l18.eq_1) @qc7l17t0.eq_1) (And.intro (And.intro @qc7l17t1.eq_1 @qc7l17t2.eq_1) @qc7l17t3.eq_1))) (And.intro (And.intro (And.intro (And.intro @qc7l17t4.eq_1 @qc7l17t5.eq_1) @qc7l17t6.eq_1) (And.intro (And.intro @qc7l17t7.eq_1 @qc7l17t8.eq_1) @qc7l17t9.eq_1)) (And.intro (And.intro (And.intro @qc7l17t10.eq_1 @qc7l17t11.eq_1) @qc7l17t12.eq_1) (And.intro @qc7l17t13.eq_1 @qc7l17t14.eq_1)))))

/- (*scoria/model.Model).used -/
def qc15l0 : List AOp := [⟨(some 2), .mv (.k (.int .i64 0)), none, none, [], none⟩]
def qc15_0 : AC := .reg qc15l0
def qc15l1 : List AOp := [⟨(some 3), .mv (.k (.int .i64 0)), none, none, [], none⟩]
def qc15_1 : AC := .reg qc15l1
def qc15l2 : List AOp := [⟨(some 6), .mv (.t 0), none, none, [], none⟩,⟨(some 7), .nilck (.t 6), none, none, [], none⟩,⟨(some 8), .faddr 1 (.t 7), none, none, [], none⟩,⟨(some 9), .load none (.t 8), none, none, [], none⟩,⟨(some 10), .mop .rng [(.t 9)], none, none, [], none⟩]
def qc15_2 : AC := .reg qc15l2
def qc15l3 : List AOp := [⟨(some 11), .mop .nxt [(.t 10)], none, none, [], none⟩,⟨(some 12), .ext 0 (.t 11), none, none, [], none⟩]
def qc15_3 : AC := .reg qc15l3
def qc15_4 : AC := .cond (.t 12) .skip (.exit 0)
def qc15l5 : List AOp := [⟨(some 13), .mop .ent [(.t 10)], none, none, [], none⟩,⟨(some 14), .ext 1 (.t 13), none, none, [], none⟩,⟨(some 5), .mv (.t 14), none, none, [], none⟩]
def qc15_5 : AC := .reg qc15l5
def qc15l6 : List AOp := [⟨(some 15), .mv (.t 3), none, none, [], none⟩,⟨(some 16), .mv (.t 5), none, none, [], none⟩,⟨(some 17), .nilck (.t 16), none, none, [], none⟩,⟨(some 18), .faddr 1 (.t 17), none, none, [], none⟩,⟨(some 19), .load none (.t 18), none, none, [], none⟩,⟨(some 20), .mop .len [(.t 19)], none, none, [], none⟩,⟨(some 21), .bin .add (.t 15) (.t 20), none, none, [], none⟩,⟨(some 3), .mv (.t 21), none, none, [], none⟩]
def qc15_6 : AC := .reg qc15l6
def qc15_7 : AC := .seq qc15_5 qc15_6
def qc15_8 : AC := .block 1 qc15_7
def qc15_9 : AC := .seq qc15_4 qc15_8
def qc15_10 : AC := .seq qc15_3 qc15_9
def qc15_11 : AC := .loop [3, 10] 1000000000 qc15_10
def qc15_12 : AC := .block 0 qc15_11
def qc15_13 : AC := .seq qc15_2 qc15_12
def qc15l14 : List AOp := [⟨(some 22), .mv (.t 3), none, none, [], none⟩,⟨(some 2), .mv (.t 22), none, none, [], none⟩]
def qc15_14 : AC := .reg qc15l14
def qc15_15 : AC := .seq qc15_14 .ret
def qc15_16 : AC := .seq qc15_13 qc15_15
def qc15_17 : AC := .seq qc15_1 qc15_16
def qc15_18 : AC := .seq qc15_0 qc15_17
def ac_model_Model_used : AC := qc15_18
theorem comp_model_Model_used : compF Try.prog [] (drawR Try.prog [] Try.f28.ntmps) [([3, 10], 1000000000)] 1 Try.f28 = some (ac_model_Model_used, [.t 2]) := by kernel_rfl
def U_model_Model_used := (And.intro (And.intro (And.intro (And.intro (And.intro @ac_model_Model_used.eq_1 (@mR _ _ qc15_0.eq_1)) (And.intro (@mR _ _ qc15_1.eq_1) (@mR _ _ qc15_2.eq_1))) (And.intro (And.intro (@mR _ _ qc15_3.eq_1) (@mU _ _ qc15_4.eq_1)) (@mR _ _ qc15_5.eq_1))) (And.intro (And.intro (And.intro (@mR _ _ qc15_6.eq_1) (@mU _ _ qc15_7.eq_1)) (And.intro (@mU _ _ qc15_8.eq_1) (@mU _ _ qc15_9.eq_1))) (And.intro (And.intro (@mU _ _ qc15_10.eq_1) (@mU _ _ qc15_11.eq_1)) (@mU _ _ qc15_12.eq_1)))) (And.intro (And.intro (And.intro (And.intro (@mU _ _ qc15_13.eq_1) (@mR _ _ qc15_14.eq_1)) (And.intro (@mU _ _ qc15_15.eq_1) (@mU _ _ qc15_16.eq_1))) (And.intro (And.intro (@mU _ _ qc15_17.eq_1) (@mU _ _ qc15_18.eq_1)) @qc15l0.eq_1)) (And.intro (And.intro (And.intro @qc15l1.eq_1 @qc15l2.eq_1) @qc15l3.eq_1) (And.intro (And.intro @qc15l5.eq_1 @qc15l6.eq_1) @qc15l14.eq_1))))

/- (*scoria/model.space).cut -/
def qc19l0 : List AOp := [⟨(some 3), .box (.t 1), none, none, [], none⟩]
def qc19_0 : AC := .reg qc19l0
def qc19l1 : List AOp := [⟨(some 4), .mv (.t 0), none, none, [], none⟩,⟨(some 5), .nilck (.t 4), none, none, [], none⟩,⟨(some 6), .faddr 1 (.t 5), none, none, [], none⟩,⟨(some 7), .load none (.t 6), none, none, [], none⟩,⟨(some 8), .mkfn (.func 50) [] [(.t 3)], none, none, [], none⟩,⟨(some 9), .icall 49 [(.t 7), (.t 8)], none, none, [], none⟩]
def qc19_1 : AC := .reg qc19l1
def qc19_2 : AC := .seq qc19_0 qc19_1
def ac_model_space_cut : AC := qc19_2
theorem comp_model_space_cut : compF Try.prog [1000049] (drawR Try.prog [1000049] Try.f29.ntmps) [] 2 Try.f29 = some (ac_model_space_cut, []) := by kernel_rfl
def U_model_space_cut := (And.intro (And.intro (And.intro @ac_model_space_cut.eq_1 (@mR _ _ qc19_0.eq_1)) (@mR _ _ qc19_1.eq_1)) (And.intro (And.intro (@mU _ _ qc19_2.eq_1) @qc19l0.eq_1) @qc19l1.eq_1))

/- (*scoria/model.Model).Do$1 -/
def qc9l0 : List AOp := [⟨(some 3), .mv (.k (.bool false)), none, none, [], none⟩]
def qc9_0 : AC := .reg qc9l0
def qc9l1 : List AOp := [⟨(some 4), .mv (.t 0), none, none, [], none⟩,⟨(some 5), .faddr 3 (.t 1), none, none, [], none⟩,⟨(some 6), .load none (.t 5), none, none, [], none⟩,⟨(some 7), .bin .geq (.t 4) (.t 6), none, none, [], none⟩,⟨(some 3), .mv (.t 7), none, none, [], none⟩]
def qc9_1 : AC := .reg qc9l1
def qc9_2 : AC := .seq qc9_1 .ret
def qc9_3 : AC := .seq qc9_0 qc9_2
def ac_model_Model_Do_c1 : AC := qc9_3
theorem comp_model_Model_Do_c1 : compF Try.prog [] (drawR Try.prog [] Try.f30.ntmps) [] 2 Try.f30 = some (ac_model_Model_Do_c1, [.t 3]) := by kernel_rfl
def U_model_Model_Do_c1 := (And.intro (And.intro (And.intro @ac_model_Model_Do_c1.eq_1 (@mR _ _ qc9_0.eq_1)) (And.intro (@mR _ _ qc9_1.eq_1) (@mU _ _ qc9_2.eq_1))) (And.intro (And.intro (@mU _ _ qc9_3.eq_1) @qc9l0.eq_1) @qc9l1.eq_1))

/- (*scoria/model.Model).sectors -/
def qc5l0 : List AOp := [⟨(some 5), .box (.t 2), none, none, [], none⟩,⟨(some 6), .alloc [(.int .i64 0), (.str []), (.int .i64 0), (.int .i64 0), (.slc [])], none, none, [], none⟩]
def qc5_0 : AC := .reg qc5l0
def qc5l1 : List AOp := [⟨(some 10), .load (some 5) (.t 5), none, none, [], none⟩,⟨(some 11), .call false 51 [(.t 10)], none, none, [], none⟩,⟨(some 9), .mv (.t 11), none, none, [], none⟩,⟨(some 12), .ext 0 (.t 9), none, none, [], none⟩,⟨(some 13), .ext 1 (.t 9), none, none, [], none⟩,⟨(some 7), .alloc [(.int .i64 0)], none, none, [], none⟩,⟨none, .store 1 (.t 7) (.t 12), none, none, [], none⟩,⟨(some 8), .mv (.t 13), none, none, [], none⟩]
def qc5_1 : AC := .reg qc5l1
def qc5l2 : List AOp := [⟨(some 15), .mv (.t 8), none, none, [], none⟩,⟨(some 16), .un .not (.t 15), none, none, [], none⟩,⟨(some 14), .mv (.t 16), none, none, [], none⟩]
def qc5_2 : AC := .reg qc5l2
def qc5l3 : List AOp := [⟨(some 17), .call false 26 [(.k (.int .i64 1))], none, none, [], none⟩,⟨none, .store 5 (.t 6) (.t 17), none, none, [], none⟩]
def qc5_3 : AC := .reg qc5l3
def qc5_4 : AC := .seq qc5_3 .ret
def qc5l5 : List AOp := [⟨(some 19), .faddr 2 (.t 5), none, none, [], none⟩,⟨(some 20), .load none (.t 19), none, none, [], none⟩,⟨(some 21), .bin .lss (.t 20) (.k (.int .i64 0)), none, none, [], none⟩,⟨(some 22), .mv (.t 21), none, none, [], none⟩,⟨(some 23), .faddr 2 (.t 5), (some (22, false)), none, [], none⟩,⟨(some 24), .load none (.t 23), (some (22, false)), none, [], none⟩,⟨(some 25), .mv (.t 1), (some (22, false)), none, [], none⟩,⟨(some 26), .nilck (.t 25), (some (22, false)), none, [], none⟩,⟨(some 27), .faddr 0 (.t 26), (some (22, false)), none, [], none⟩,⟨(some 28), .load none (.t 27), (some (22, false)), none, [], none⟩,⟨(some 29), .bin .gtr (.t 24) (.t 28), (some (22, false)), none, [], none⟩,⟨(some 30), .pick (.t 22) (.k (.bool true)) (.t 29), none, none, [], none⟩,⟨(some 31), .mv (.t 30), none, none, [], none⟩,⟨(some 32), .load none (.t 7), (some (31, false)), none, [], none⟩,⟨(some 33), .mv (.t 1), (some (31, false)), none, [], none⟩,⟨(some 34), .nilck (.t 33), (some (31, false)), none, [], none⟩,⟨(some 35), .faddr 0 (.t 34), (some (31, false)), none, [], none⟩,⟨(some 36), .load none (.t 35), (some (31, false)), none, [], none⟩,⟨(some 37), .faddr 2 (.t 5), (some (31, false)), none, [], none⟩,⟨(some 38), .load none (.t 37), (some (31, false)), none, [], none⟩,⟨(some 39), .bin .sub (.t 36) (.t 38), (some (31, false)), none, [], none⟩,⟨(some 40), .bin .gtr (.t 32) (.t 39), (some (31, false)), none, [], none⟩,⟨(some 41), .pick (.t 31) (.k (.bool true)) (.t 40), none, none, [], none⟩,⟨(some 18), .mv (.t 41), none, none, [], none⟩]
def qc5_5 : AC := .dreg 0 qc5l5
def qc5l6 : List AOp := [⟨(some 42), .call false 26 [(.k (.int .i64 82))], none, none, [], none⟩,⟨none, .store 5 (.t 6) (.t 42), none, none, [], none⟩]
def qc5_6 : AC := .reg qc5l6
def qc5_7 : AC := .seq qc5_6 .ret
def qc5_8 : AC := .cond (.t 18) qc5_7 .skip
def qc5_9 : AC := .seq qc5_5 qc5_8
def qc5_10 : AC := .cond (.t 14) qc5_4 qc5_9
def qc5_11 : AC := .seq qc5_2 qc5_10
def qc5_12 : AC := .block 0 qc5_11
def qc5l13 : List AOp := [⟨(some 43), .faddr 0 (.t 5), none, none, [], none⟩,⟨(some 44), .load none (.t 43), none, none, [], none⟩]
def qc5_13 : AC := .reg qc5l13
def qc5l14 : List AOp := [⟨(some 46), .bin .eql (.t 44) (.k (.int .i64 7)), none, none, [], none⟩,⟨(some 45), .mv (.t 46), none, none, [], none⟩]
def qc5_14 : AC := .reg qc5l14
def qc5l15 : List AOp := [⟨(some 47), .mv (.t 1), none, none, [], none⟩,⟨(some 48), .faddr 2 (.t 5), none, none, [], none⟩,⟨(some 49), .load none (.t 48), none, none, [], none⟩,⟨(some 50), .load none (.t 7), none, none, [], none⟩,⟨(some 51), .icall 52 [(.t 47), (.t 49), (.t 50)], none, none, [], none⟩,⟨none, .store 5 (.t 6) (.t 51), none, none, [], none⟩]
def qc5_15 : AC := .reg qc5l15
def qc5_16 : AC := .seq qc5_15 .ret
def qc5l17 : List AOp := [⟨(some 53), .bin .eql (.t 44) (.k (.int .i64 6)), none, none, [], none⟩,⟨(some 52), .mv (.t 53), none, none, [], none⟩]
def qc5_17 : AC := .reg qc5l17
def qc5l18 : List AOp := [⟨(some 54), .mv (.t 1), none, none, [], none⟩,⟨(some 55), .mkfn (.func 53) [] [(.t 5), (.t 7)], none, none, [], none⟩,⟨(some 56), .icall 29 [(.t 54), (.t 55)], none, none, [], none⟩]
def qc5_18 : AC := .reg qc5l18
def qc5l19 : List AOp := [⟨(some 57), .build [(.int .i64 0), (.str []), (.int .i64 0), (.int .i64 0), (.slc [])] [], none, none, [], none⟩,⟨none, .store 5 (.t 6) (.t 57), none, none, [], none⟩]
def qc5_19 : AC := .reg qc5l19
def qc5_20 : AC := .seq qc5_19 .ret
def qc5_21 : AC := .seq qc5_18 qc5_20
def qc5_22 : AC := .cond (.t 52) qc5_21 .skip
def qc5_23 : AC := .seq qc5_17 qc5_22
def qc5_24 : AC := .cond (.t 45) qc5_16 qc5_23
def qc5_25 : AC := .seq qc5_14 qc5_24
def qc5_26 : AC := .block 1 qc5_25
def qc5_27 : AC := .seq qc5_13 qc5_26
def qc5l28 : List AOp := [⟨(some 58), .mv (.t 0), none, none, [], none⟩,⟨(some 59), .mv (.t 1), none, none, [], none⟩,⟨(some 60), .load (some 5) (.t 5), none, none, [], none⟩,⟨(some 61), .load none (.t 7), none, none, [], none⟩,⟨(some 62), .icall 54 [(.t 58), (.t 59), (.t 60), (.t 61)], none, none, [], none⟩,⟨none, .store 5 (.t 6) (.t 62), none, none, [], none⟩]
def qc5_28 : AC := .reg qc5l28
def qc5_29 : AC := .seq qc5_28 .ret
def qc5_30 : AC := .seq qc5_27 qc5_29
def qc5_31 : AC := .seq qc5_12 qc5_30
def qc5_32 : AC := .seq qc5_1 qc5_31
def qc5_33 : AC := .seq qc5_0 qc5_32
def ac_model_Model_sectors : AC := qc5_33
theorem comp_model_Model_sectors : compF Try.prog [1000052, 1000029, 1000054] (drawR Try.prog [1000052, 1000029, 1000054] Try.f31.ntmps) [] 3 Try.f31 = some (ac_model_Model_sectors, [.c 6 (some 5)]) := by kernel_rfl
def U_model_Model_sectors := (And.intro (And.intro (And.intro (And.intro (And.intro (And.intro @ac_model_Model_sectors.eq_1 (@mR _ _ qc5_0.eq_1)) (@mR _ _ qc5_1.eq_1)) (And.intro (And.intro (@mR _ _ qc5_2.eq_1) (@mR _ _ qc5_3.eq_1)) (@mU _ _ qc5_4.eq_1))) (And.intro (And.intro (And.intro (@mD _ _ _ qc5_5.eq_1) (@mR _ _ qc5_6.eq_1)) (@mU _ _ qc5_7.eq_1)) (And.intro (And.intro (@mU _ _ qc5_8.eq_1) (@mU _ _ qc5_9.eq_1)) (@mU _ _ qc5_10.eq_1)))) (And.intro (And.intro (And.intro (And.intro (@mU _ _ qc5_11.eq_1) (@mU _ _ qc5_12.eq_1)) (@mR _ _ qc5_13.eq_1)) (And.intro (And.intro (@mR _ _ qc5_14.eq_1) (@mR _ _ qc5_15.eq_1)) (@mU _ _ qc5_16.eq_1))) (And.intro (And.intro (And.intro (@mR _ _ qc5_17.eq_1) (@mR _ _ qc5_18.eq_1)) (@mR _ _ qc5_19.eq_1)) (And.intro (And.intro (@mU _ _ qc5_20.eq_1) (@mU _ _ qc5_21.eq_1)) (@mU _ _ qc5_22.eq_1))))) (And.intro (And.intro (And.intro (And.intro (And.intro (@mU _ _ qc5_23.eq_1) (@mU _ _ qc5_24.eq_1)) (@mU _ _ qc5_25.eq_1)) (And.intro (And.intro (@mU _ _ qc5_26.eq_1) (@mU _ _ qc5_27.eq_1)) (@mR _ _ qc5_28.eq_1))) (And.intro (And.intro (And.intro (@mU _ _ qc5_29.eq_1) (@mU _ _ qc5_30.eq_1)) (@mU _ _ qc5_31.eq_1)) (And.intro (And.intro (@mU _ _ qc5_32.eq_1) (@mU _ _ qc5_33.eq_1)) @qc5l0.eq_1))) (And.intro (And.intro (And.intro (And.intro @qc5l1.eq_1 @qc5l2.eq_1) @qc5l3.eq_1) (And.intro (And.intro @qc5l5.eq_1 @qc5l6.eq_1) @qc5l13.eq_1)) (And.intro (And.intro (And.intro @qc5l14.eq_1 @qc5l15.eq_1) @qc5l17.eq_1) (And.intro (And.intro @qc5l18.eq_1 @qc5l19.eq_1) @qc5l28.eq_1)))))

/- maps.Clone[map[int]string,int,string] -/
def qc10l0 : List AOp := [⟨(some 2), .mv (.k .nilm), none, none, [], none⟩]
def qc10_0 : AC := .reg qc10l0
def qc10l1 : List AOp := [⟨(some 3), .mv (.t 0), none, none, [], none⟩,⟨(some 4), .isn .m false (.t 3), none, none, [], none⟩]
def qc10_1 : AC := .reg qc10l1
def qc10l2 : List AOp := [⟨(some 2), .mv (.k .nilm), none, none, [], none⟩]
def qc10_2 : AC := .reg qc10l2
def qc10_3 : AC := .seq qc10_2 .ret
def qc10_4 : AC := .cond (.t 4) qc10_3 .skip
def qc10_5 : AC := .seq qc10_1 qc10_4
def qc10l6 : List AOp := [⟨(some 5), .mv (.t 0), none, none, [], none⟩,⟨(some 6), .fail, none, none, [], none⟩,⟨(some 7), .fail, none, none, [], none⟩,⟨(some 8), .fail, none, none, [], none⟩,⟨(some 2), .mv (.t 8), none, none, [], none⟩]
def qc10_6 : AC := .reg qc10l6
def qc10_7 : AC := .seq qc10_6 .ret
def qc10_8 : AC := .seq qc10_5 qc10_7
def qc10_9 : AC := .seq qc10_0 qc10_8
def ac_maps_Clone_string : AC := qc10_9
theorem comp_maps_Clone_string : compF Try.prog [] (drawR Try.prog [] Try.f42.ntmps) [] 1 Try.f42 = some (ac_maps_Clone_string, [.t 2]) := by kernel_rfl
def U_maps_Clone_string := (And.intro (And.intro (And.intro (And.intro @ac_maps_Clone_string.eq_1 (@mR _ _ qc10_0.eq_1)) (And.intro (@mR _ _ qc10_1.eq_1) (@mR _ _ qc10_2.eq_1))) (And.intro (And.intro (@mU _ _ qc10_3.eq_1) (@mU _ _ qc10_4.eq_1)) (And.intro (@mU _ _ qc10_5.eq_1) (@mR _ _ qc10_6.eq_1)))) (And.intro (And.intro (And.intro (@mU _ _ qc10_7.eq_1) (@mU _ _ qc10_8.eq_1)) (And.intro (@mU _ _ qc10_9.eq_1) @qc10l0.eq_1)) (And.intro (And.intro @qc10l1.eq_1 @qc10l2.eq_1) @qc10l6.eq_1)))

/- maps.Keys[map[int]*scoria/model.space,int,*scoria/model.space] -/
def qc3l0 : List AOp := [⟨(some 1), .box (.t 0), none, none, [], none⟩,⟨(some 2), .mv (.k .nilf), none, none, [], none⟩]
def qc3_0 : AC := .reg qc3l0
def qc3l1 : List AOp := [⟨(some 3), .mkfn (.func 68) [] [(.t 1)], none, none, [], none⟩,⟨(some 2), .mv (.t 3), none, none, [], none⟩]
def qc3_1 : AC := .reg qc3l1
def qc3_2 : AC := .seq qc3_1 .ret
def qc3_3 : AC := .seq qc3_0 qc3_2
def ac_maps_Keys_model_space : AC := qc3_3
theorem comp_maps_Keys_model_space : compF Try.prog [] (drawR Try.prog [] Try.f44.ntmps) [] 1 Try.f44 = some (ac_maps_Keys_model_space, [.t 2]) := by kernel_rfl
def U_maps_Keys_model_space := (And.intro (And.intro (And.intro @ac_maps_Keys_model_space.eq_1 (@mR _ _ qc3_0.eq_1)) (And.intro (@mR _ _ qc3_1.eq_1) (@mU _ _ qc3_2.eq_1))) (And.intro (And.intro (@mU _ _ qc3_3.eq_1) @qc3l0.eq_1) @qc3l1.eq_1))

/- maps.Keys[map[int]string,int,string] -/
def qc16l0 : List AOp := [⟨(some 1), .box (.t 0), none, none, [], none⟩,⟨(some 2), .mv (.k .nilf), none, none, [], none⟩]
def qc16_0 : AC := .reg qc16l0
def qc16l1 : List AOp := [⟨(some 3), .mkfn (.func 69) [] [(.t 1)], none, none, [], none⟩,⟨(some 2), .mv (.t 3), none, none, [], none⟩]
def qc16_1 : AC := .reg qc16l1
def qc16_2 : AC := .seq qc16_1 .ret
def qc16_3 : AC := .seq qc16_0 qc16_2
def ac_maps_Keys_string : AC := qc16_3
theorem comp_maps_Keys_string : compF Try.prog [] (drawR Try.prog [] Try.f45.ntmps) [] 1 Try.f45 = some (ac_maps_Keys_string, [.t 2]) := by kernel_rfl
def U_maps_Keys_string := (And.intro (And.intro (And.intro @ac_maps_Keys_string.eq_1 (@mR _ _ qc16_0.eq_1)) (And.intro (@mR _ _ qc16_1.eq_1) (@mU _ _ qc16_2.eq_1))) (And.intro (And.intro (@mU _ _ qc16_3.eq_1) @qc16l0.eq_1) @qc16l1.eq_1))

/- maps.EqualFunc[map[int]*scoria/model.space,map[int]*scoria/model.space,int,*scoria/model.space,*scoria/model.space] -/
def qc0l0 : List AOp := [⟨(some 6), .mv (.k (.bool false)), none, none, [], none⟩]
def qc0_0 : AC := .reg qc0l0
def qc0l1 : List AOp := [⟨(some 11), .mv (.t 0), none, none, [], none⟩,⟨(some 12), .mop .len [(.t 11)], none, none, [], none⟩,⟨(some 13), .mv (.t 1), none, none, [], none⟩,⟨(some 14), .mop .len [(.t 13)], none, none, [], none⟩,⟨(some 15), .bin .neq (.t 12) (.t 14), none, none, [], none⟩]
def qc0_1 : AC := .reg qc0l1
def qc0l2 : List AOp := [⟨(some 6), .mv (.k (.bool false)), none, none, [], none⟩]
def qc0_2 : AC := .reg qc0l2
def qc0_3 : AC := .seq qc0_2 .ret
def qc0_4 : AC := .cond (.t 15) qc0_3 .skip
def qc0_5 : AC := .seq qc0_1 qc0_4
def qc0l6 : List AOp := [⟨(some 16), .mv (.t 0), none, none, [], none⟩,⟨(some 17), .mop .rng [(.t 16)], none, none, [], none⟩]
def qc0_6 : AC := .reg qc0l6
def qc0l7 : List AOp := [⟨(some 18), .mop .nxt [(.t 17)], none, none, [], none⟩,⟨(some 19), .ext 0 (.t 18), none, none, [], none⟩]
def qc0_7 : AC := .reg qc0l7
def qc0_8 : AC := .cond (.t 19) .skip (.exit 0)
def qc0l9 : List AOp := [⟨(some 20), .mop .ent [(.t 17)], none, none, [], none⟩,⟨(some 21), .ext 0 (.t 20), none, none, [], none⟩,⟨(some 22), .ext 1 (.t 20), none, none, [], none⟩,⟨(some 7), .mv (.t 21), none, none, [], none⟩,⟨(some 8), .mv (.t 22), none, none, [], none⟩]
def qc0_9 : AC := .reg qc0l9
def qc0l10 : List AOp := [⟨(some 24), .mv (.t 1), none, none, [], none⟩,⟨(some 25), .mv (.t 7), none, none, [], none⟩,⟨(some 26), .mop (.get true .nilp) [(.t 24), (.t 25)], none, none, [], none⟩,⟨(some 23), .mv (.t 26), none, none, [], none⟩,⟨(some 27), .ext 0 (.t 23), none, none, [], none⟩,⟨(some 28), .ext 1 (.t 23), none, none, [], none⟩,⟨(some 9), .mv (.t 27), none, none, [], none⟩,⟨(some 10), .mv (.t 28), none, none, [], none⟩]
def qc0_10 : AC := .reg qc0l10
def qc0l11 : List AOp := [⟨(some 29), .mv (.t 10), none, none, [], none⟩,⟨(some 30), .un .not (.t 29), none, none, [], none⟩,⟨(some 31), .mv (.t 30), none, none, [], none⟩,⟨(some 32), .mv (.t 2), (some (31, false)), none, [], none⟩,⟨(some 33), .mv (.t 8), (some (31, false)), none, [], none⟩,⟨(some 34), .mv (.t 9), (some (31, false)), none, [], none⟩,⟨(some 35), .icallv (.t 32) [(.t 33), (.t 34)], (some (31, false)), none, [], none⟩,⟨(some 36), .un .not (.t 35), (some (31, false)), none, [], none⟩,⟨(some 37), .pick (.t 31) (.k (.bool true)) (.t 36), none, none, [], none⟩]
def qc0_11 : AC := .reg qc0l11
def qc0l12 : List AOp := [⟨(some 6), .mv (.k (.bool false)), none, none, [], none⟩]
def qc0_12 : AC := .reg qc0l12
def qc0_13 : AC := .seq qc0_12 .ret
def qc0_14 : AC := .cond (.t 37) qc0_13 .skip
def qc0_15 : AC := .seq qc0_11 qc0_14
def qc0_16 : AC := .seq qc0_10 qc0_15
def qc0_17 : AC := .seq qc0_9 qc0_16
def qc0_18 : AC := .block 1 qc0_17
def qc0_19 : AC := .seq qc0_8 qc0_18
def qc0_20 : AC := .seq qc0_7 qc0_19
def qc0_21 : AC := .loop [1, 2, 17] 1000000000 qc0_20
def qc0_22 : AC := .block 0 qc0_21
def qc0_23 : AC := .seq qc0_6 qc0_22
def qc0l24 : List AOp := [⟨(some 6), .mv (.k (.bool true)), none, none, [], none⟩]
def qc0_24 : AC := .reg qc0l24
def qc0_25 : AC := .seq qc0_24 .ret
def qc0_26 : AC := .seq qc0_23 qc0_25
def qc0_27 : AC := .seq qc0_5 qc0_26
def qc0_28 : AC := .seq qc0_0 qc0_27
def ac_maps_EqualFunc_model_space : AC := qc0_28
theorem comp_maps_EqualFunc_model_space : compF Try.prog [2000000] (drawR Try.prog [2000000] Try.f46.ntmps) [([1, 2, 17], 1000000000)] 3 Try.f46 = some (ac_maps_EqualFunc_model_space, [.t 6]) := by kernel_rfl
def U_maps_EqualFunc_model_space := (And.intro (And.intro (And.intro (And.intro (And.intro (And.intro @ac_maps_EqualFunc_model_space.eq_1 (@mR _ _ qc0_0.eq_1)) (@mR _ _ qc0_1.eq_1)) (And.intro (@mR _ _ qc0_2.eq_1) (@mU _ _ qc0_3.eq_1))) (And.intro (And.intro (And.intro (@mU _ _ qc0_4.eq_1) (@mU _ _ qc0_5.eq_1)) (@mR _ _ qc0_6.eq_1)) (And.intro (@mR _ _ qc0_7.eq_1) (@mU _ _ qc0_8.eq_1)))) (And.intro (And.intro (And.intro (And.intro (@mR _ _ qc0_9.eq_1) (@mR _ _ qc0_10.eq_1)) (@mR _ _ qc0_11.eq_1)) (And.intro (@mR _ _ qc0_12.eq_1) (@mU _ _ qc0_13.eq_1))) (And.intro (And.intro (And.intro (@mU _ _ qc0_14.eq_1) (@mU _ _ qc0_15.eq_1)) (@mU _ _ qc0_16.eq_1)) (And.intro (@mU _ _ qc0_17.eq_1) (@mU _ _ qc0_18.eq_1))))) (And.intro (And.intro (And.intro (And.intro (And.intro (@mU _ _ qc0_19.eq_1) (@mU _ _ qc0_20.eq_1)) (@mU _ _ qc0_21.eq_1)) (And.intro (@mU _ _ qc0_22.eq_1) (@mU _ _ qc0_23.eq_1))) (And.intro (And.intro (And.intro (@mR _ _ qc0_24.eq_1) (@mU _ _ qc0_25.eq_1)) (@mU _ _ qc0_26.eq_1)) (And.intro (@mU _ _ qc0_27.eq_1) (@mU _ _ qc0_28.eq_1)))) (And.intro (And.intro (And.intro (And.intro @qc0l0.eq_1 @qc0l1.eq_1) @qc0l2.eq_1) (And.intro @qc0l6.eq_1 @qc0l7.eq_1)) (And.intro (And.intro (And.intro @qc0l9.eq_1 @qc0l10.eq_1) @qc0l11.eq_1) (And.intro @qc0l12.eq_1 @qc0l24.eq_1)))))

/- (*scoria/model.Model).Same$1 -/
def qc6l0 : List AOp := [⟨(some 4), .mv (.k (.bool false)), none, none, [], none⟩]
def qc6_0 : AC := .reg qc6l0
def qc6l1 : List AOp := [⟨(some 5), .mv (.t 0), none, none, [], none⟩,⟨(some 6), .nilck (.t 5), none, none, [], none⟩,⟨(some 7), .faddr 0 (.t 6), none, none, [], none⟩,⟨(some 8), .load none (.t 7), none, none, [], none⟩,⟨(some 9), .mv (.t 1), none, none, [], none⟩,⟨(some 10), .nilck (.t 9), none, none, [], none⟩,⟨(some 11), .faddr 0 (.t 10), none, none, [], none⟩,⟨(some 12), .load none (.t 11), none, none, [], none⟩,⟨(some 13), .bin .eql (.t 8) (.t 12), none, none, [], none⟩,⟨(some 14), .mv (.t 13), none, none, [], none⟩,⟨(some 15), .mv (.t 0), (some (14, true)), none, [], none⟩,⟨(some 16), .nilck (.t 15), (some (14, true)), none, [], none⟩,⟨(some 17), .faddr 1 (.t 16), (some (14, true)), none, [], none⟩,⟨(some 18), .load none (.t 17), (some (14, true)), none, [], none⟩,⟨(some 19), .mv (.t 1), (some (14, true)), none, [], none⟩,⟨(some 20), .nilck (.t 19), (some (14, true)), none, [], none⟩,⟨(some 21), .faddr 1 (.t 20), (some (14, true)), none, [], none⟩,⟨(some 22), .load none (.t 21), (some (14, true)), none, [], none⟩,⟨(some 23), .icall 48 [(.t 18), (.t 22)], (some (14, true)), none, [], none⟩,⟨(some 24), .pick (.t 14) (.t 23) (.k (.bool false)), none, none, [], none⟩,⟨(some 4), .mv (.t 24), none, none, [], none⟩]
def qc6_1 : AC := .dreg 0 qc6l1
def qc6_2 : AC := .seq qc6_1 .ret
def qc6_3 : AC := .seq qc6_0 qc6_2
def ac_model_Model_Same_c1 : AC := qc6_3
theorem comp_model_Model_Same_c1 : compF Try.prog [1000048] (drawR Try.prog [1000048] Try.f47.ntmps) [] 2 Try.f47 = some (ac_model_Model_Same_c1, [.t 4]) := by kernel_rfl
def U_model_Model_Same_c1 := (And.intro (And.intro (And.intro @ac_model_Model_Same_c1.eq_1 (@mR _ _ qc6_0.eq_1)) (And.intro (@mD _ _ _ qc6_1.eq_1) (@mU _ _ qc6_2.eq_1))) (And.intro (And.intro (@mU _ _ qc6_3.eq_1) @qc6l0.eq_1) @qc6l1.eq_1))

/- maps.Equal[map[int]string,map[int]string,int,string] -/
def qc11l0 : List AOp := [⟨(some 4), .mv (.k (.bool false)), none, none, [], none⟩]
def qc11_0 : AC := .reg qc11l0
def qc11l1 : List AOp := [⟨(some 9), .mv (.t 0), none, none, [], none⟩,⟨(some 10), .mop .len [(.t 9)], none, none, [], none⟩,⟨(some 11), .mv (.t 1), none, none, [], none⟩,⟨(some 12), .mop .len [(.t 11)], none, none, [], none⟩,⟨(some 13), .bin .neq (.t 10) (.t 12), none, none, [], none⟩]
def qc11_1 : AC := .reg qc11l1
def qc11l2 : List AOp := [⟨(some 4), .mv (.k (.bool false)), none, none, [], none⟩]
def qc11_2 : AC := .reg qc11l2
def qc11_3 : AC := .seq qc11_2 .ret
def qc11_4 : AC := .cond (.t 13) qc11_3 .skip
def qc11_5 : AC := .seq qc11_1 qc11_4
def qc11l6 : List AOp := [⟨(some 14), .mv (.t 0), none, none, [], none⟩,⟨(some 15), .mop .rng [(.t 14)], none, none, [], none⟩]
def qc11_6 : AC := .reg qc11l6
def qc11l7 : List AOp := [⟨(some 16), .mop .nxt [(.t 15)], none, none, [], none⟩,⟨(some 17), .ext 0 (.t 16), none, none, [], none⟩]
def qc11_7 : AC := .reg qc11l7
def qc11_8 : AC := .cond (.t 17) .skip (.exit 0)
def qc11l9 : List AOp := [⟨(some 18), .mop .ent [(.t 15)], none, none, [], none⟩,⟨(some 19), .ext 0 (.t 18), none, none, [], none⟩,⟨(some 20), .ext 1 (.t 18), none, none, [], none⟩,⟨(some 5), .mv (.t 19), none, none, [], none⟩,⟨(some 6), .mv (.t 20), none, none, [], none⟩]
def qc11_9 : AC := .reg qc11l9
def qc11l10 : List AOp := [⟨(some 22), .mv (.t 1), none, none, [], none⟩,⟨(some 23), .mv (.t 5), none, none, [], none⟩,⟨(some 24), .mop (.get true (.str [])) [(.t 22), (.t 23)], none, none, [], none⟩,⟨(some 21), .mv (.t 24), none, none, [], none⟩,⟨(some 25), .ext 0 (.t 21), none, none, [], none⟩,⟨(some 26), .ext 1 (.t 21), none, none, [], none⟩,⟨(some 7), .mv (.t 25), none, none, [], none⟩,⟨(some 8), .mv (.t 26), none, none, [], none⟩]
def qc11_10 : AC := .reg qc11l10
def qc11l11 : List AOp := [⟨(some 27), .mv (.t 8), none, none, [], none⟩,⟨(some 28), .un .not (.t 27), none, none, [], none⟩,⟨(some 29), .mv (.t 28), none, none, [], none⟩,⟨(some 30), .mv (.t 6), (some (29, false)), none, [], none⟩,⟨(some 31), .mv (.t 7), (some (29, false)), none, [], none⟩,⟨(some 32), .bin .neq (.t 30) (.t 31), (some (29, false)), none, [], none⟩,⟨(some 33), .pick (.t 29) (.k (.bool true)) (.t 32), none, none, [], none⟩]
def qc11_11 : AC := .reg qc11l11
def qc11l12 : List AOp := [⟨(some 4), .mv (.k (.bool false)), none, none, [], none⟩]
def qc11_12 : AC := .reg qc11l12
def qc11_13 : AC := .seq qc11_12 .ret
def qc11_14 : AC := .cond (.t 33) qc11_13 .skip
def qc11_15 : AC := .seq qc11_11 qc11_14
def qc11_16 : AC := .seq qc11_10 qc11_15
def qc11_17 : AC := .seq qc11_9 qc11_16
def qc11_18 : AC := .block 1 qc11_17
def qc11_19 : AC := .seq qc11_8 qc11_18
def qc11_20 : AC := .seq qc11_7 qc11_19
def qc11_21 : AC := .loop [1, 15] 1000000000 qc11_20
def qc11_22 : AC := .block 0 qc11_21
def qc11_23 : AC := .seq qc11_6 qc11_22
def qc11l24 : List AOp := [⟨(some 4), .mv (.k (.bool true)), none, none, [], none⟩]
def qc11_24 : AC := .reg qc11l24
def qc11_25 : AC := .seq qc11_24 .ret
def qc11_26 : AC := .seq qc11_23 qc11_25
def qc11_27 : AC := .seq qc11_5 qc11_26
def qc11_28 : AC := .seq qc11_0 qc11_27
def ac_maps_Equal_string : AC := qc11_28
theorem comp_maps_Equal_string : compF Try.prog [] (drawR Try.prog [] Try.f48.ntmps) [([1, 15], 1000000000)] 2 Try.f48 = some (ac_maps_Equal_string, [.t 4]) := by kernel_rfl
def U_maps_Equal_string := (And.intro (And.intro (And.intro (And.intro (And.intro (And.intro @ac_maps_Equal_string.eq_1 (@mR _ _ qc11_0.eq_1)) (@mR _ _ qc11_1.eq_1)) (And.intro (@mR _ _ qc11_2.eq_1) (@mU _ _ qc11_3.eq_1))) (And.intro (And.intro (And.intro (@mU _ _ qc11_4.eq_1) (@mU _ _ qc11_5.eq_1)) (@mR _ _ qc11_6.eq_1)) (And.intro (@mR _ _ qc11_7.eq_1) (@mU _ _ qc11_8.eq_1)))) (And.intro (And.intro (And.intro (And.intro (@mR _ _ qc11_9.eq_1) (@mR _ _ qc11_10.eq_1)) (@mR _ _ qc11_11.eq_1)) (And.intro (@mR _ _ qc11_12.eq_1) (@mU _ _ qc11_13.eq_1))) (And.intro (And.intro (And.intro (@mU _ _ qc11_14.eq_1) (@mU _ _ qc11_15.eq_1)) (@mU _ _ qc11_16.eq_1)) (And.intro (@mU _ _ qc11_17.eq_1) (@mU _ _ qc11_18.eq_1))))) (And.intro (And.intro (And.intro (And.intro (And.intro (@mU _ _ qc11_19.eq_1) (@mU _ _ qc11_20.eq_1)) (@mU _ _ qc11_21.eq_1)) (And.intro (@mU _ _ qc11_22.eq_1) (@mU _ _ qc11_23.eq_1))) (And.intro (And.intro (And.intro (@mR _ _ qc11_24.eq_1) (@mU _ _ qc11_25.eq_1)) (@mU _ _ qc11_26.eq_1)) (And.intro (@mU _ _ qc11_27.eq_1) (@mU _ _ qc11_28.eq_1)))) (And.intro (And.intro (And.intro (And.intro @qc11l0.eq_1 @qc11l1.eq_1) @qc11l2.eq_1) (And.intro @qc11l6.eq_1 @qc11l7.eq_1)) (And.intro (And.intro (And.intro @qc11l9.eq_1 @qc11l10.eq_1) @qc11l11.eq_1) (And.intro @qc11l12.eq_1 @qc11l24.eq_1)))))

/- maps.DeleteFunc[map[int]string,int,string] -/
def qc1l0 : List AOp := [⟨(some 6), .mv (.t 0), none, none, [], none⟩,⟨(some 7), .mop .rng [(.t 6)], none, none, [], none⟩]
def qc1_0 : AC := .reg qc1l0
def qc1l1 : List AOp := [⟨(some 8), .mop .nxt [(.t 7)], none, none, [], none⟩,⟨(some 9), .ext 0 (.t 8), none, none, [], none⟩]
def qc1_1 : AC := .reg qc1l1
def qc1_2 : AC := .cond (.t 9) .skip (.exit 0)
def qc1l3 : List AOp := [⟨(some 10), .mop .ent [(.t 7)], none, none, [], none⟩,⟨(some 11), .ext 0 (.t 10), none, none, [], none⟩,⟨(some 12), .ext 1 (.t 10), none, none, [], none⟩,⟨(some 4), .mv (.t 11), none, none, [], none⟩,⟨(some 5), .mv (.t 12), none, none, [], none⟩]
def qc1_3 : AC := .reg qc1l3
def qc1l4 : List AOp := [⟨(some 13), .mv (.t 1), none, none, [], none⟩,⟨(some 14), .mv (.t 4), none, none, [], none⟩,⟨(some 15), .mv (.t 5), none, none, [], none⟩,⟨(some 16), .icallv (.t 13) [(.t 14), (.t 15)], none, none, [], none⟩]
def qc1_4 : AC := .reg qc1l4
def qc1l5 : List AOp := [⟨(some 17), .mv (.t 0), none, none, [], none⟩,⟨(some 18), .mv (.t 4), none, none, [], none⟩,⟨none, .mop .del [(.t 17), (.t 18)], none, none, [], none⟩]
def qc1_5 : AC := .reg qc1l5
def qc1_6 : AC := .cond (.t 16) qc1_5 .skip
def qc1_7 : AC := .seq qc1_4 qc1_6
def qc1_8 : AC := .seq qc1_3 qc1_7
def qc1_9 : AC := .block 1 qc1_8
def qc1_10 : AC := .seq qc1_2 qc1_9
def qc1_11 : AC := .seq qc1_1 qc1_10
def qc1_12 : AC := .loop [0, 1, 7] 1000000000 qc1_11
def qc1_13 : AC := .block 0 qc1_12
def qc1_14 : AC := .seq qc1_0 qc1_13
def ac_maps_DeleteFunc_string : AC := qc1_14
theorem comp_maps_DeleteFunc_string : compF Try.prog [2000000] (drawR Try.prog [2000000] Try.f49.ntmps) [([0, 1, 7], 1000000000)] 2 Try.f49 = some (ac_maps_DeleteFunc_string, []) := by kernel_rfl
def U_maps_DeleteFunc_string := (And.intro (And.intro (And.intro (And.intro (And.intro @ac_maps_DeleteFunc_string.eq_1 (@mR _ _ qc1_0.eq_1)) (@mR _ _ qc1_1.eq_1)) (And.intro (And.intro (@mU _ _ qc1_2.eq_1) (@mR _ _ qc1_3.eq_1)) (@mR _ _ qc1_4.eq_1))) (And.intro (And.intro (And.intro (@mR _ _ qc1_5.eq_1) (@mU _ _ qc1_6.eq_1)) (@mU _ _ qc1_7.eq_1)) (And.intro (@mU _ _ qc1_8.eq_1) (@mU _ _ qc1_9.eq_1)))) (And.intro (And.intro (And.intro (And.intro (@mU _ _ qc1_10.eq_1) (@mU _ _ qc1_11.eq_1)) (@mU _ _ qc1_12.eq_1)) (And.intro (@mU _ _ qc1_13.eq_1) (@mU _ _ qc1_14.eq_1))) (And.intro (And.intro (And.intro @qc1l0.eq_1 @qc1l1.eq_1) @qc1l3.eq_1) (And.intro @qc1l4.eq_1 @qc1l5.eq_1))))

/- (*scoria/model.space).cut$1 -/
def qc8l0 : List AOp := [⟨(some 5), .mv (.k (.bool false)), none, none, [], none⟩]
def qc8_0 : AC := .reg qc8l0
def qc8l1 : List AOp := [⟨(some 6), .load none (.t 2), none, none, [], none⟩,⟨(some 7), .mv (.t 0), none, none, [], none⟩,⟨(some 8), .icallv (.t 6) [(.t 7)], none, none, [], none⟩,⟨(some 5), .mv (.t 8), none, none, [], none⟩]
def qc8_1 : AC := .reg qc8l1
def qc8_2 : AC := .seq qc8_1 .ret
def qc8_3 : AC := .seq qc8_0 qc8_2
def ac_model_space_cut_c1 : AC := qc8_3
theorem comp_model_space_cut_c1 : compF Try.prog [2000000] (drawR Try.prog [2000000] Try.f50.ntmps) [] 3 Try.f50 = some (ac_model_space_cut_c1, [.t 5]) := by kernel_rfl
def U_model_space_cut_c1 := (And.intro (And.intro (And.intro @ac_model_space_cut_c1.eq_1 (@mR _ _ qc8_0.eq_1)) (And.intro (@mR _ _ qc8_1.eq_1) (@mU _ _ qc8_2.eq_1))) (And.intro (And.intro (@mU _ _ qc8_3.eq_1) @qc8l0.eq_1) @qc8l1.eq_1))

/- scoria/model.whole -/
def qc23l0 : List AOp := [⟨(some 1), .box (.t 0), none, none, [], none⟩,⟨(some 2), .mv (.k (.int .i64 0)), none, none, [], none⟩,⟨(some 3), .mv (.k (.bool false)), none, none, [], none⟩]
def qc23_0 : AC := .reg qc23l0
def qc23l1 : List AOp := [⟨(some 5), .faddr 3 (.t 1), none, none, [], none⟩,⟨(some 6), .load none (.t 5), none, none, [], none⟩,⟨(some 4), .mv (.t 6), none, none, [], none⟩]
def qc23_1 : AC := .reg qc23l1
def qc23l2 : List AOp := [⟨(some 7), .faddr 0 (.t 1), none, none, [], none⟩,⟨(some 8), .load none (.t 7), none, none, [], none⟩]
def qc23_2 : AC := .reg qc23l2
def qc23l3 : List AOp := [⟨(some 10), .bin .eql (.t 8) (.k (.int .i64 4)), none, none, [], none⟩,⟨(some 9), .mv (.t 10), none, none, [], none⟩]
def qc23_3 : AC := .reg qc23l3
def qc23l4 : List AOp := [⟨(some 11), .faddr 4 (.t 1), none, none, [], none⟩,⟨(some 12), .load none (.t 11), none, none, [], none⟩,⟨(some 13), .lens (.t 12), none, none, [], none⟩,⟨(some 14), .bin .quo (.t 13) (.k (.int .i64 32)), none, none, [], none⟩,⟨(some 4), .mv (.t 14), none, none, [], none⟩]
def qc23_4 : AC := .reg qc23l4
def qc23l5 : List AOp := [⟨(some 15), .mv (.t 4), none, none, [], none⟩,⟨(some 16), .mv (.t 4), none, none, [], none⟩,⟨(some 17), .bin .geq (.t 16) (.k (.int .i64 1)), none, none, [], none⟩,⟨(some 18), .mv (.t 17), none, none, [], none⟩,⟨(some 19), .mv (.t 4), (some (18, true)), none, [], none⟩,⟨(some 20), .bin .leq (.t 19) (.k (.int .i64 8)), (some (18, true)), none, [], none⟩,⟨(some 21), .pick (.t 18) (.t 20) (.k (.bool false)), none, none, [], none⟩,⟨(some 22), .mv (.t 21), none, none, [], none⟩,⟨(some 23), .faddr 4 (.t 1), (some (22, true)), none, [], none⟩,⟨(some 24), .load none (.t 23), (some (22, true)), none, [], none⟩,⟨(some 25), .lens (.t 24), (some (22, true)), none, [], none⟩,⟨(some 26), .bin .rem (.t 25) (.k (.int .i64 32)), (some (22, true)), none, [], none⟩,⟨(some 27), .bin .eql (.t 26) (.k (.int .i64 0)), (some (22, true)), none, [], none⟩,⟨(some 28), .pick (.t 22) (.t 27) (.k (.bool false)), none, none, [], none⟩,⟨(some 2), .mv (.t 15), none, none, [], none⟩,⟨(some 3), .mv (.t 28), none, none, [], none⟩]
def qc23_5 : AC := .dreg 0 qc23l5
def qc23_6 : AC := .seq qc23_5 .ret
def qc23_7 : AC := .seq qc23_4 qc23_6
def qc23l8 : List AOp := [⟨(some 30), .bin .eql (.t 8) (.k (.int .i64 7)), none, none, [], none⟩,⟨(some 29), .mv (.t 30), none, none, [], none⟩]
def qc23_8 : AC := .reg qc23l8
def qc23l9 : List AOp := [⟨(some 31), .mv (.t 4), none, none, [], none⟩,⟨(some 32), .mv (.t 4), none, none, [], none⟩,⟨(some 33), .bin .geq (.t 32) (.k (.int .i64 1)), none, none, [], none⟩,⟨(some 34), .mv (.t 33), none, none, [], none⟩,⟨(some 35), .mv (.t 4), (some (34, true)), none, [], none⟩,⟨(some 36), .bin .leq (.t 35) (.k (.int .i64 8)), (some (34, true)), none, [], none⟩,⟨(some 37), .pick (.t 34) (.t 36) (.k (.bool false)), none, none, [], none⟩,⟨(some 2), .mv (.t 31), none, none, [], none⟩,⟨(some 3), .mv (.t 37), none, none, [], none⟩]
def qc23_9 : AC := .reg qc23l9
def qc23_10 : AC := .seq qc23_9 .ret
def qc23_11 : AC := .cond (.t 29) qc23_10 .skip
def qc23_12 : AC := .seq qc23_8 qc23_11
def qc23_13 : AC := .cond (.t 9) qc23_7 qc23_12
def qc23_14 : AC := .seq qc23_3 qc23_13
def qc23_15 : AC := .block 0 qc23_14
def qc23_16 : AC := .seq qc23_2 qc23_15
def qc23l17 : List AOp := [⟨(some 38), .mv (.t 4), none, none, [], none⟩,⟨(some 39), .mv (.t 4), none, none, [], none⟩,⟨(some 40), .bin .geq (.t 39) (.k (.int .i64 1)), none, none, [], none⟩,⟨(some 2), .mv (.t 38), none, none, [], none⟩,⟨(some 3), .mv (.t 40), none, none, [], none⟩]
def qc23_17 : AC := .reg qc23l17
def qc23_18 : AC := .seq qc23_17 .ret
def qc23_19 : AC := .seq qc23_16 qc23_18
def qc23_20 : AC := .seq qc23_1 qc23_19
def qc23_21 : AC := .seq qc23_0 qc23_20
def ac_model_whole : AC := qc23_21
theorem comp_model_whole : compF Try.prog [] (drawR Try.prog [] Try.f51.ntmps) [] 1 Try.f51 = some (ac_model_whole, [.t 2, .t 3]) := by kernel_rfl
def U_model_whole := (And.intro (And.intro (And.intro (And.intro (And.intro @ac_model_whole.eq_1 (@mR _ _ qc23_0.eq_1)) (And.intro (@mR _ _ qc23_1.eq_1) (@mR _ _ qc23_2.eq_1))) (And.intro (And.intro (@mR _ _ qc23_3.eq_1) (@mR _ _ qc23_4.eq_1)) (And.intro (@mD _ _ _ qc23_5.eq_1) (@mU _ _ qc23_6.eq_1)))) (And.intro (And.intro (And.intro (@mU _ _ qc23_7.eq_1) (@mR _ _ qc23_8.eq_1)) (And.intro (@mR _ _ qc23_9.eq_1) (@mU _ _ qc23_10.eq_1))) (And.intro (And.intro (@mU _ _ qc23_11.eq_1) (@mU _ _ qc23_12.eq_1)) (And.intro (@mU _ _ qc23_13.eq_1) (@mU _ _ qc23_14.eq_1))))) (And.intro (And.intro (And.intro (And.intro (@mU _ _ qc23_15.eq_1) (@mU _ _ qc23_16.eq_1)) (And.intro (@mR _ _ qc23_17.eq_1) (@mU _ _ qc23_18.eq_1))) (And.intro (And.intro (@mU _ _ qc23_19.eq_1) (@mU _ _ qc23_20.eq_1)) (And.intro (@mU _ _ qc23_21.eq_1) @qc23l0.eq_1))) (And.intro (And.intro (And.intro @qc23l1.eq_1 @qc23l2.eq_1) (And.intro @qc23l3.eq_1 @qc23l4.eq_1)) (And.intro (And.intro @qc23l5.eq_1 @qc23l8.eq_1) (And.intro @qc23l9.eq_1 @qc23l17.eq_1)))))

/- (*scoria/model.space).read -/
def qc17l0 : List AOp := [⟨(some 6), .alloc [(.int .i64 0), (.str []), (.int .i64 0), (.int .i64 0), (.slc [])], none, none, [], none⟩]
def qc17_0 : AC := .reg qc17l0
def qc17l1 : List AOp := [⟨(some 7), .balloc 117 5, none, none, [], none⟩]
def qc17_1 : AC := .reg qc17l1
def qc17l2 : List AOp := [⟨(some 11), .mv (.t 2), none, none, [], none⟩,⟨(some 12), .mv (.k (.int .i64 0)), none, none, [], none⟩]
def qc17_2 : AC := .reg qc17l2
def qc17l3 : List AOp := [⟨(some 13), .bin .lss (.t 12) (.t 11), none, none, [], none⟩]
def qc17_3 : AC := .reg qc17l3
def qc17_4 : AC := .cond (.t 13) .skip (.exit 0)
def qc17l5 : List AOp := [⟨(some 14), .mv (.t 12), none, none, [], none⟩,⟨(some 8), .mv (.t 14), none, none, [], none⟩]
def qc17_5 : AC := .reg qc17l5
def qc17l6 : List AOp := [⟨(some 16), .mv (.t 0), none, none, [], none⟩,⟨(some 17), .nilck (.t 16), none, none, [], none⟩,⟨(some 18), .faddr 1 (.t 17), none, none, [], none⟩,⟨(some 19), .load none (.t 18), none, none, [], none⟩,⟨(some 20), .mv (.t 1), none, none, [], none⟩,⟨(some 21), .mv (.t 8), none, none, [], none⟩,⟨(some 22), .bin .add (.t 20) (.t 21), none, none, [], none⟩,⟨(some 23), .mop (.get true (.str [])) [(.t 19), (.t 22)], none, none, [], none⟩,⟨(some 15), .mv (.t 23), none, none, [], none⟩,⟨(some 24), .ext 0 (.t 15), none, none, [], none⟩,⟨(some 25), .ext 1 (.t 15), none, none, [], none⟩,⟨(some 9), .mv (.t 24), none, none, [], none⟩,⟨(some 10), .mv (.t 25), none, none, [], none⟩]
def qc17_6 : AC := .reg qc17l6
def qc17l7 : List AOp := [⟨(some 26), .mv (.t 10), none, none, [], none⟩]
def qc17_7 : AC := .reg qc17l7
def qc17l8 : List AOp := [⟨(some 27), .mv (.t 9), none, none, [], none⟩,⟨(some 28), .icall 70 [(.t 7), (.t 27)], none, none, [], none⟩]
def qc17_8 : AC := .reg qc17l8
def qc17l9 : List AOp := [⟨(some 29), .call false 71 [], none, none, [], none⟩,⟨(some 30), .icall 70 [(.t 7), (.t 29)], none, none, [], none⟩]
def qc17_9 : AC := .reg qc17l9
def qc17_10 : AC := .cond (.t 26) qc17_8 qc17_9
def qc17_11 : AC := .seq qc17_7 qc17_10
def qc17_12 : AC := .seq qc17_6 qc17_11
def qc17_13 : AC := .seq qc17_5 qc17_12
def qc17_14 : AC := .block 1 qc17_13
def qc17l15 : List AOp := [⟨(some 31), .bin .add (.t 12) (.k (.int .i64 1)), none, none, [], none⟩,⟨(some 12), .mv (.t 31), none, none, [], none⟩]
def qc17_15 : AC := .reg qc17l15
def qc17_16 : AC := .seq qc17_14 qc17_15
def qc17_17 : AC := .seq qc17_4 qc17_16
def qc17_18 : AC := .seq qc17_3 qc17_17
def qc17_19 : AC := .loop [0, 1, 6, 7, 11, 12] 1000000000 qc17_18
def qc17_20 : AC := .block 0 qc17_19
def qc17_21 : AC := .seq qc17_2 qc17_20
def qc17l22 : List AOp := [⟨(some 32), .icall 72 [(.t 7)], none, none, [], none⟩,⟨(some 33), .build [(.int .i64 0), (.str []), (.int .i64 0), (.int .i64 0), (.slc [])] [(1, 1, (.t 32))], none, none, [], none⟩,⟨none, .store 5 (.t 6) (.t 33), none, none, [], none⟩]
def qc17_22 : AC := .reg qc17l22
def qc17_23 : AC := .seq qc17_22 .ret
def qc17_24 : AC := .seq qc17_21 qc17_23
def qc17_25 : AC := .seq qc17_1 qc17_24
def qc17_26 : AC := .seq qc17_0 qc17_25
def ac_model_space_read : AC := qc17_26
theorem comp_model_space_read : compF Try.prog [7, 1000070, 1000072] (drawR Try.prog [7, 1000070, 1000072] Try.f52.ntmps) [([0, 1, 6, 7, 11, 12], 1000000000)] 3 Try.f52 = some (ac_model_space_read, [.c 6 (some 5)]) := by kernel_rfl
def U_model_space_read := (And.intro (And.intro (And.intro (And.intro (And.intro (And.intro @ac_model_space_read.eq_1 (@mR _ _ qc17_0.eq_1)) (@mR _ _ qc17_1.eq_1)) (And.intro (@mR _ _ qc17_2.eq_1) (@mR _ _ qc17_3.eq_1))) (And.intro (And.intro (And.intro (@mU _ _ qc17_4.eq_1) (@mR _ _ qc17_5.eq_1)) (@mR _ _ qc17_6.eq_1)) (And.intro (@mR _ _ qc17_7.eq_1) (@mR _ _ qc17_8.eq_1)))) (And.intro (And.intro (And.intro (And.intro (@mR _ _ qc17_9.eq_1) (@mU _ _ qc17_10.eq_1)) (@mU _ _ qc17_11.eq_1)) (And.intro (@mU _ _ qc17_12.eq_1) (@mU _ _ qc17_13.eq_1))) (And.intro (And.intro (And.intro (@mU _ _ qc17_14.eq_1) (@mR _ _ qc17_15.eq_1)) (@mU _ _ qc17_16.eq_1)) (And.intro (@mU _ _ qc17_17.eq_1) (@mU _ _ qc17_18.eq_1))))) (And.intro (And.intro (And.intro (And.intro (And.intro (@mU _ _ qc17_19.eq_1) (@mU _ _ qc17_20.eq_1)) (@mU _ _ qc17_21.eq_1)) (And.intro (@mR _ _ qc17_22.eq_1) (@mU _ _ qc17_23.eq_1))) (And.intro (And.intro (And.intro (@mU _ _ qc17_24.eq_1) (@mU _ _ qc17_25.eq_1)) (@mU _ _ qc17_26.eq_1)) (And.intro @qc17l0.eq_1 @qc17l1.eq_1))) (And.intro (And.intro (And.intro (And.intro @qc17l2.eq_1 @qc17l3.eq_1) @qc17l5.eq_1) (And.intro @qc17l6.eq_1 @qc17l7.eq_1)) (And.intro (And.intro @qc17l8.eq_1 @qc17l9.eq_1) (And.intro @qc17l15.eq_1 @qc17l22.eq_1)))))

/- (*scoria/model.Model).sectors$1 -/
def qc2l0 : List AOp := [⟨(some 4), .mv (.k (.bool false)), none, none, [], none⟩]
def qc2_0 : AC := .reg qc2l0
def qc2l1 : List AOp := [⟨(some 5), .mv (.t 0), none, none, [], none⟩,⟨(some 6), .faddr 2 (.t 1), none, none, [], none⟩,⟨(some 7), .load none (.t 6), none, none, [], none⟩,⟨(some 8), .bin .geq (.t 5) (.t 7), none, none, [], none⟩,⟨(some 9), .mv (.t 8), none, none, [], none⟩,⟨(some 10), .mv (.t 0), (some (9, true)), none, [], none⟩,⟨(some 11), .faddr 2 (.t 1), (some (9, true)), none, [], none⟩,⟨(some 12), .load none (.t 11), (some (9, true)), none, [], none⟩,⟨(some 13), .bin .sub (.t 10) (.t 12), (some (9, true)), none, [], none⟩,⟨(some 14), .load none (.t 2), (some (9, true)), none, [], none⟩,⟨(some 15), .bin .lss (.t 13) (.t 14), (some (9, true)), none, [], none⟩,⟨(some 16), .pick (.t 9) (.t 15) (.k (.bool false)), none, none, [], none⟩,⟨(some 4), .mv (.t 16), none, none, [], none⟩]
def qc2_1 : AC := .reg qc2l1
def qc2_2 : AC := .seq qc2_1 .ret
def qc2_3 : AC := .seq qc2_0 qc2_2
def ac_model_Model_sectors_c1 : AC := qc2_3
theorem comp_model_Model_sectors_c1 : compF Try.prog [] (drawR Try.prog [] Try.f53.ntmps) [] 3 Try.f53 = some (ac_model_Model_sectors_c1, [.t 4]) := by kernel_rfl
def U_model_Model_sectors_c1 := (And.intro (And.intro (And.intro @ac_model_Model_sectors_c1.eq_1 (@mR _ _ qc2_0.eq_1)) (And.intro (@mR _ _ qc2_1.eq_1) (@mU _ _ qc2_2.eq_1))) (And.intro (And.intro (@mU _ _ qc2_3.eq_1) @qc2l0.eq_1) @qc2l1.eq_1))

/- (*scoria/model.Model).lay -/
def qc20l0 : List AOp := [⟨(some 6), .box (.t 2), none, none, [], none⟩,⟨(some 8), .alloc [(.int .i64 0), (.str []), (.int .i64 0), (.int .i64 0), (.slc [])], none, none, [], none⟩]
def qc20_0 : AC := .reg qc20l0
def qc20l1 : List AOp := [⟨(some 10), .mv (.t 1), none, none, [], none⟩,⟨(some 11), .faddr 2 (.t 6), none, none, [], none⟩,⟨(some 12), .load none (.t 11), none, none, [], none⟩,⟨(some 13), .mv (.t 3), none, none, [], none⟩,⟨(some 14), .rcall 73 [(.t 10), (.t 12), (.t 13)], none, none, [], none⟩,⟨(some 15), .mv (.t 0), none, none, [], none⟩,⟨(some 16), .nilck (.t 15), none, none, [], none⟩,⟨(some 17), .faddr 0 (.t 16), none, none, [], none⟩,⟨(some 18), .load none (.t 17), none, none, [], none⟩,⟨(some 19), .mv (.t 0), none, none, [], none⟩,⟨(some 20), .rcall 28 [(.t 19)], none, none, [], none⟩,⟨(some 21), .bin .sub (.t 18) (.t 20), none, none, [], none⟩,⟨(some 22), .bin .gtr (.t 14) (.t 21), none, none, [], none⟩]
def qc20_1 : AC := .dreg 0 qc20l1
def qc20l2 : List AOp := [⟨(some 23), .call false 26 [(.k (.int .i64 71))], none, none, [], none⟩,⟨none, .store 5 (.t 8) (.t 23), none, none, [], none⟩]
def qc20_2 : AC := .reg qc20l2
def qc20_3 : AC := .seq qc20_2 .ret
def qc20_4 : AC := .cond (.t 22) qc20_3 .skip
def qc20_5 : AC := .seq qc20_1 qc20_4
def qc20l6 : List AOp := [⟨(some 24), .mv (.t 3), none, none, [], none⟩,⟨(some 25), .mv (.k (.int .i64 0)), none, none, [], none⟩]
def qc20_6 : AC := .reg qc20l6
def qc20l7 : List AOp := [⟨(some 26), .bin .lss (.t 25) (.t 24), none, none, [], none⟩]
def qc20_7 : AC := .reg qc20l7
def qc20_8 : AC := .cond (.t 26) .skip (.exit 0)
def qc20l9 : List AOp := [⟨(some 27), .mv (.t 25), none, none, [], none⟩,⟨(some 9), .mv (.t 27), none, none, [], none⟩]
def qc20_9 : AC := .reg qc20l9
def qc20l10 : List AOp := [⟨(some 28), .mv (.t 1), none, none, [], none⟩,⟨(some 29), .nilck (.t 28), none, none, [], none⟩,⟨(some 30), .faddr 1 (.t 29), none, none, [], none⟩,⟨(some 31), .load none (.t 30), none, none, [], none⟩,⟨(some 32), .faddr 2 (.t 6), none, none, [], none⟩,⟨(some 33), .load none (.t 32), none, none, [], none⟩,⟨(some 34), .mv (.t 9), none, none, [], none⟩,⟨(some 35), .bin .add (.t 33) (.t 34), none, none, [], none⟩,⟨(some 36), .call false 71 [], none, none, [], none⟩,⟨none, .mop .set [(.t 31), (.t 35), (.t 36)], none, none, [], none⟩]
def qc20_10 : AC := .dreg 0 qc20l10
def qc20l11 : List AOp := [⟨(some 37), .faddr 0 (.t 6), none, none, [], none⟩,⟨(some 38), .load none (.t 37), none, none, [], none⟩,⟨(some 39), .bin .eql (.t 38) (.k (.int .i64 4)), none, none, [], none⟩]
def qc20_11 : AC := .reg qc20l11
def qc20l12 : List AOp := [⟨(some 40), .mv (.t 1), none, none, [], none⟩,⟨(some 41), .nilck (.t 40), none, none, [], none⟩,⟨(some 42), .faddr 1 (.t 41), none, none, [], none⟩,⟨(some 43), .load none (.t 42), none, none, [], none⟩,⟨(some 44), .faddr 2 (.t 6), none, none, [], none⟩,⟨(some 45), .load none (.t 44), none, none, [], none⟩,⟨(some 46), .mv (.t 9), none, none, [], none⟩,⟨(some 47), .bin .add (.t 45) (.t 46), none, none, [], none⟩,⟨(some 48), .faddr 4 (.t 6), none, none, [], none⟩,⟨(some 49), .load none (.t 48), none, none, [], none⟩,⟨(some 50), .mv (.t 9), none, none, [], none⟩,⟨(some 51), .bin .mul (.t 50) (.k (.int .i64 32)), none, none, [], none⟩,⟨(some 52), .mv (.t 9), none, none, [], none⟩,⟨(some 53), .bin .add (.t 52) (.k (.int .i64 1)), none, none, [], none⟩,⟨(some 54), .bin .mul (.t 53) (.k (.int .i64 32)), none, none, [], none⟩,⟨(some 55), .sstr (.t 49) (some (.t 51)) (some (.t 54)), none, none, [], none⟩,⟨none, .mop .set [(.t 43), (.t 47), (.t 55)], none, none, [], none⟩]
def qc20_12 : AC := .dreg 0 qc20l12
def qc20_13 : AC := .cond (.t 39) qc20_12 .skip
def qc20_14 : AC := .seq qc20_11 qc20_13
def qc20_15 : AC := .seq qc20_10 qc20_14
def qc20_16 : AC := .seq qc20_9 qc20_15
def qc20_17 : AC := .block 1 qc20_16
def qc20l18 : List AOp := [⟨(some 56), .bin .add (.t 25) (.k (.int .i64 1)), none, none, [], none⟩,⟨(some 25), .mv (.t 56), none, none, [], none⟩]
def qc20_18 : AC := .reg qc20l18
def qc20_19 : AC := .seq qc20_17 qc20_18
def qc20_20 : AC := .seq qc20_8 qc20_19
def qc20_21 : AC := .seq qc20_7 qc20_20
def qc20_22 : AC := .loop [1, 6, 8, 24, 25] 1000000000 qc20_21
def qc20_23 : AC := .block 0 qc20_22
def qc20_24 : AC := .seq qc20_6 qc20_23
def qc20l25 : List AOp := [⟨(some 57), .build [(.int .i64 0), (.str []), (.int .i64 0), (.int .i64 0), (.slc [])] [], none, none, [], none⟩,⟨none, .store 5 (.t 8) (.t 57), none, none, [], none⟩]
def qc20_25 : AC := .reg qc20l25
def qc20_26 : AC := .seq qc20_25 .ret
def qc20_27 : AC := .seq qc20_24 qc20_26
def qc20_28 : AC := .seq qc20_5 qc20_27
def qc20_29 : AC := .seq qc20_0 qc20_28
def ac_model_Model_lay : AC := qc20_29
theorem comp_model_Model_lay : compF Try.prog [4000073, 4000028] (drawR Try.prog [4000073, 4000028] Try.f54.ntmps) [([1, 6, 8, 24, 25], 1000000000)] 4 Try.f54 = some (ac_model_Model_lay, [.c 8 (some 5)]) := by kernel_rfl
def U_model_Model_lay := (And.intro (And.intro (And.intro (And.intro (And.intro (And.intro @ac_model_Model_lay.eq_1 (@mR _ _ qc20_0.eq_1)) (@mD _ _ _ qc20_1.eq_1)) (And.intro (And.intro (@mR _ _ qc20_2.eq_1) (@mU _ _ qc20_3.eq_1)) (@mU _ _ qc20_4.eq_1))) (And.intro (And.intro (And.intro (@mU _ _ qc20_5.eq_1) (@mR _ _ qc20_6.eq_1)) (@mR _ _ qc20_7.eq_1)) (And.intro (@mU _ _ qc20_8.eq_1) (@mR _ _ qc20_9.eq_1)))) (And.intro (And.intro (And.intro (And.intro (@mD _ _ _ qc20_10.eq_1) (@mR _ _ qc20_11.eq_1)) (@mD _ _ _ qc20_12.eq_1)) (And.intro (@mU _ _ qc20_13.eq_1) (@mU _ _ qc20_14.eq_1))) (And.intro (And.intro (And.intro (@mU _ _ qc20_15.eq_1) (@mU _ _ qc20_16.eq_1)) (@mU _ _ qc20_17.eq_1)) (And.intro (@mR _ _ qc20_18.eq_1) (@mU _ _ qc20_19.eq_1))))) (And.intro (And.intro (And.intro (And.intro (And.intro (@mU _ _ qc20_20.eq_1) (@mU _ _ qc20_21.eq_1)) (@mU _ _ qc20_22.eq_1)) (And.intro (And.intro (@mU _ _ qc20_23.eq_1) (@mU _ _ qc20_24.eq_1)) (@mR _ _ qc20_25.eq_1))) (And.intro (And.intro (And.intro (@mU _ _ qc20_26.eq_1) (@mU _ _ qc20_27.eq_1)) (@mU _ _ qc20_28.eq_1)) (And.intro (@mU _ _ qc20_29.eq_1) @qc20l0.eq_1))) (And.intro (And.intro (And.intro (And.intro @qc20l1.eq_1 @qc20l2.eq_1) @qc20l6.eq_1) (And.intro @qc20l7.eq_1 @qc20l9.eq_1)) (And.intro (And.intro (And.intro @qc20l10.eq_1 @qc20l11.eq_1) @qc20l12.eq_1) (And.intro @qc20l18.eq_1 @qc20l25.eq_1)))))

/- scoria/model.blank -/
def qc24l0 : List AOp := [⟨(some 0), .mv (.k (.str [])), none, none, [], none⟩]
def qc24_0 : AC := .reg qc24l0
def qc24l1 : List AOp := [⟨(some 1), .call false 79 [(.k (.str [0])), (.k (.int .i64 32))], none, none, [], none⟩,⟨(some 0), .mv (.t 1), none, none, [], none⟩]
def qc24_1 : AC := .reg qc24l1
def qc24_2 : AC := .seq qc24_1 .ret
def qc24_3 : AC := .seq qc24_0 qc24_2
def ac_model_blank : AC := qc24_3
theorem comp_model_blank : compF Try.prog [] (drawR Try.prog [] Try.f71.ntmps) [] 0 Try.f71 = some (ac_model_blank, [.t 0]) := by kernel_rfl
def U_model_blank := (And.intro (And.intro (And.intro @ac_model_blank.eq_1 (@mR _ _ qc24_0.eq_1)) (And.intro (@mR _ _ qc24_1.eq_1) (@mU _ _ qc24_2.eq_1))) (And.intro (And.intro (@mU _ _ qc24_3.eq_1) @qc24l0.eq_1) @qc24l1.eq_1))

/- (*scoria/model.space).holes -/
def qc12l0 : List AOp := [⟨(some 6), .mv (.k (.int .i64 0)), none, none, [], none⟩]
def qc12_0 : AC := .reg qc12l0
def qc12l1 : List AOp := [⟨(some 9), .mv (.t 2), none, none, [], none⟩,⟨(some 7), .mv (.t 9), none, none, [], none⟩]
def qc12_1 : AC := .reg qc12l1
def qc12l2 : List AOp := [⟨(some 10), .mv (.t 0), none, none, [], none⟩,⟨(some 11), .nilck (.t 10), none, none, [], none⟩,⟨(some 12), .faddr 1 (.t 11), none, none, [], none⟩,⟨(some 13), .load none (.t 12), none, none, [], none⟩,⟨(some 14), .mop .rng [(.t 13)], none, none, [], none⟩]
def qc12_2 : AC := .reg qc12l2
def qc12l3 : List AOp := [⟨(some 15), .mop .nxt [(.t 14)], none, none, [], none⟩,⟨(some 16), .ext 0 (.t 15), none, none, [], none⟩]
def qc12_3 : AC := .reg qc12l3
def qc12_4 : AC := .cond (.t 16) .skip (.exit 0)
def qc12l5 : List AOp := [⟨(some 17), .mop .ent [(.t 14)], none, none, [], none⟩,⟨(some 18), .ext 0 (.t 17), none, none, [], none⟩,⟨(some 8), .mv (.t 18), none, none, [], none⟩]
def qc12_5 : AC := .reg qc12l5
def qc12l6 : List AOp := [⟨(some 19), .mv (.t 8), none, none, [], none⟩,⟨(some 20), .mv (.t 1), none, none, [], none⟩,⟨(some 21), .bin .geq (.t 19) (.t 20), none, none, [], none⟩,⟨(some 22), .mv (.t 21), none, none, [], none⟩,⟨(some 23), .mv (.t 8), (some (22, true)), none, [], none⟩,⟨(some 24), .mv (.t 1), (some (22, true)), none, [], none⟩,⟨(some 25), .bin .sub (.t 23) (.t 24), (some (22, true)), none, [], none⟩,⟨(some 26), .mv (.t 2), (some (22, true)), none, [], none⟩,⟨(some 27), .bin .lss (.t 25) (.t 26), (some (22, true)), none, [], none⟩,⟨(some 28), .pick (.t 22) (.t 27) (.k (.bool false)), none, none, [], none⟩]
def qc12_6 : AC := .reg qc12l6
def qc12l7 : List AOp := [⟨(some 29), .mv (.t 7), none, none, [], none⟩,⟨(some 30), .bin .sub (.t 29) (.k (.int .i64 1)), none, none, [], none⟩,⟨(some 7), .mv (.t 30), none, none, [], none⟩]
def qc12_7 : AC := .reg qc12l7
def qc12_8 : AC := .cond (.t 28) qc12_7 .skip
def qc12_9 : AC := .seq qc12_6 qc12_8
def qc12_10 : AC := .seq qc12_5 qc12_9
def qc12_11 : AC := .block 1 qc12_10
def qc12_12 : AC := .seq qc12_4 qc12_11
def qc12_13 : AC := .seq qc12_3 qc12_12
def qc12_14 : AC := .loop [1, 2, 7, 14] 1000000000 qc12_13
def qc12_15 : AC := .block 0 qc12_14
def qc12_16 : AC := .seq qc12_2 qc12_15
def qc12l17 : List AOp := [⟨(some 31), .mv (.t 7), none, none, [], none⟩,⟨(some 6), .mv (.t 31), none, none, [], none⟩]
def qc12_17 : AC := .reg qc12l17
def qc12_18 : AC := .seq qc12_17 .ret
def qc12_19 : AC := .seq qc12_16 qc12_18
def qc12_20 : AC := .seq qc12_1 qc12_19
def qc12_21 : AC := .seq qc12_0 qc12_20
def ac_model_space_holes : AC := qc12_21
theorem comp_model_space_holes : compF Try.prog [] (drawR Try.prog [] Try.f73.ntmps) [([1, 2, 7, 14], 1000000000)] 3 Try.f73 = some (ac_model_space_holes, [.t 6]) := by kernel_rfl
def U_model_space_holes := (And.intro (And.intro (And.intro (And.intro (And.intro @ac_model_space_holes.eq_1 (@mR _ _ qc12_0.eq_1)) (And.intro (@mR _ _ qc12_1.eq_1) (@mR _ _ qc12_2.eq_1))) (And.intro (And.intro (@mR _ _ qc12_3.eq_1) (@mU _ _ qc12_4.eq_1)) (And.intro (@mR _ _ qc12_5.eq_1) (@mR _ _ qc12_6.eq_1)))) (And.intro (And.intro (And.intro (@mR _ _ qc12_7.eq_1) (@mU _ _ qc12_8.eq_1)) (And.intro (@mU _ _ qc12_9.eq_1) (@mU _ _ qc12_10.eq_1))) (And.intro (And.intro (@mU _ _ qc12_11.eq_1) (@mU _ _ qc12_12.eq_1)) (And.intro (@mU _ _ qc12_13.eq_1) (@mU _ _ qc12_14.eq_1))))) (And.intro (And.intro (And.intro (And.intro (@mU _ _ qc12_15.eq_1) (@mU _ _ qc12_16.eq_1)) (And.intro (@mR _ _ qc12_17.eq_1) (@mU _ _ qc12_18.eq_1))) (And.intro (And.intro (@mU _ _ qc12_19.eq_1) (@mU _ _ qc12_20.eq_1)) (And.intro (@mU _ _ qc12_21.eq_1) @qc12l0.eq_1))) (And.intro (And.intro (And.intro @qc12l1.eq_1 @qc12l2.eq_1) (And.intro @qc12l3.eq_1 @qc12l5.eq_1)) (And.intro (And.intro @qc12l6.eq_1 @qc12l7.eq_1) @qc12l17.eq_1))))

end Go.Proofs.Ythjnfjgejdlbfaa.Aw
