/-
  The functions of the seat, translated to abstract code. Written by a program (wip/Gen2.lean).
-/
import Derived.Test.YthjnfjgejdlbfaaCode2
import Derived.Test.YthjnfjgejdlbfaaProg
set_option maxRecDepth 100000
set_option linter.all false
namespace Go.Proofs.Ythjnfjgejdlbfaa.Aw
open Go.RowKit
/- (*strings.Builder).WriteString -/
def qe0l0 : List AOp := [⟨(some 4), .mv (.k (.int .i64 0)), none, none, [], none⟩,⟨(some 5), .mv (.k .nili), none, none, [], none⟩]
def qe0_0 : AC := .reg qe0l0
def qe0l1 : List AOp := [⟨(some 6), .mv (.t 0), none, none, [], none⟩,⟨(some 7), .icall 78 [(.t 6)], none, none, [], none⟩]
def qe0_1 : AC := .reg qe0l1
def qe0l2 : List AOp := [⟨(some 8), .mv (.t 0), none, none, [], none⟩,⟨(some 9), .mv (.t 0), none, none, [], none⟩,⟨(some 10), .nilck (.t 9), none, none, [], none⟩,⟨(some 11), .faddr 1 (.t 10), none, none, [], none⟩,⟨(some 12), .load none (.t 11), none, none, [], none⟩,⟨(some 13), .mv (.t 1), none, none, [], none⟩,⟨(some 14), .apps 5 (.t 12) (.t 13), none, none, [], none⟩,⟨(some 15), .nilck (.t 8), none, none, [], none⟩,⟨(some 16), .faddr 1 (.t 15), none, none, [], none⟩,⟨none, .store 1 (.t 16) (.t 14), none, none, [], none⟩]
def qe0_2 : AC := .reg qe0l2
def qe0l3 : List AOp := [⟨(some 17), .mv (.t 1), none, none, [], none⟩,⟨(some 18), .lens (.t 17), none, none, [], none⟩,⟨(some 4), .mv (.t 18), none, none, [], none⟩,⟨(some 5), .mv (.k .nili), none, none, [], none⟩]
def qe0_3 : AC := .reg qe0l3
def qe0_4 : AC := .seq qe0_3 .ret
def qe0_5 : AC := .seq qe0_2 qe0_4
def qe0_6 : AC := .seq qe0_1 qe0_5
def qe0_7 : AC := .seq qe0_0 qe0_6
def ac_strings_Builder_WriteString : AC := qe0_7
theorem comp_strings_Builder_WriteString : compF Try.prog [1000078] (drawR Try.prog [1000078] Try.f70.ntmps) [] 2 Try.f70 = some (ac_strings_Builder_WriteString, [.t 4, .t 5]) := by kernel_rfl
def U_strings_Builder_WriteString := (And.intro (And.intro (And.intro (And.intro @ac_strings_Builder_WriteString.eq_1 (@mR _ _ qe0_0.eq_1)) (And.intro (@mR _ _ qe0_1.eq_1) (@mR _ _ qe0_2.eq_1))) (And.intro (And.intro (@mR _ _ qe0_3.eq_1) (@mU _ _ qe0_4.eq_1)) (@mU _ _ qe0_5.eq_1))) (And.intro (And.intro (And.intro (@mU _ _ qe0_6.eq_1) (@mU _ _ qe0_7.eq_1)) @qe0l0.eq_1) (And.intro (And.intro @qe0l1.eq_1 @qe0l2.eq_1) @qe0l3.eq_1)))

/- (*strings.Builder).String -/
def qe1l0 : List AOp := [⟨(some 2), .mv (.k (.str [])), none, none, [], none⟩]
def qe1_0 : AC := .reg qe1l0
def qe1l1 : List AOp := [⟨(some 3), .mv (.t 0), none, none, [], none⟩,⟨(some 4), .nilck (.t 3), none, none, [], none⟩,⟨(some 5), .faddr 1 (.t 4), none, none, [], none⟩,⟨(some 6), .load none (.t 5), none, none, [], none⟩,⟨(some 7), .usd (.t 6), none, none, [], none⟩,⟨(some 8), .mv (.t 0), none, none, [], none⟩,⟨(some 9), .nilck (.t 8), none, none, [], none⟩,⟨(some 10), .faddr 1 (.t 9), none, none, [], none⟩,⟨(some 11), .load none (.t 10), none, none, [], none⟩,⟨(some 12), .len (.t 11), none, none, [], none⟩,⟨(some 13), .ust 5 (.t 7) (.t 12), none, none, [], none⟩,⟨(some 2), .mv (.t 13), none, none, [], none⟩]
def qe1_1 : AC := .dreg 0 qe1l1
def qe1_2 : AC := .seq qe1_1 .ret
def qe1_3 : AC := .seq qe1_0 qe1_2
def ac_strings_Builder_String : AC := qe1_3
theorem comp_strings_Builder_String : compF Try.prog [] (drawR Try.prog [] Try.f72.ntmps) [] 1 Try.f72 = some (ac_strings_Builder_String, [.t 2]) := by kernel_rfl
def U_strings_Builder_String := (And.intro (And.intro (And.intro @ac_strings_Builder_String.eq_1 (@mR _ _ qe1_0.eq_1)) (And.intro (@mD _ _ _ qe1_1.eq_1) (@mU _ _ qe1_2.eq_1))) (And.intro (And.intro (@mU _ _ qe1_3.eq_1) @qe1l0.eq_1) @qe1l1.eq_1))

end Go.Proofs.Ythjnfjgejdlbfaa.Aw
