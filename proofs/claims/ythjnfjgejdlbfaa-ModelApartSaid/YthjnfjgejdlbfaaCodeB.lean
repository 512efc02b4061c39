/-
  The functions of the seat, translated to abstract code. Written by a program (wip/Gen2.lean).
-/
import Derived.Test.YthjnfjgejdlbfaaCode2
import Derived.Test.YthjnfjgejdlbfaaProg
set_option maxRecDepth 100000
set_option linter.all false
namespace Go.Proofs.Ythjnfjgejdlbfaa.Aw
open Go.RowKit
/- (*strings.Builder).WriteString -/
def l_strings_Builder_WriteString_0 : List AOp := [⟨(some 4), .mv (.k (.int .i64 0)), none, none, [], none⟩,
  ⟨(some 5), .mv (.k .nili), none, none, [], none⟩]
def ac_strings_Builder_WriteString_0 : AC := .reg l_strings_Builder_WriteString_0
def l_strings_Builder_WriteString_1 : List AOp := [⟨(some 6), .mv (.t 0), none, none, [], none⟩,
  ⟨(some 7), .icall 78 [(.t 6)], none, none, [], none⟩]
def ac_strings_Builder_WriteString_1 : AC := .reg l_strings_Builder_WriteString_1
def l_strings_Builder_WriteString_2 : List AOp := [⟨(some 8), .mv (.t 0), none, none, [], none⟩,
  ⟨(some 9), .mv (.t 0), none, none, [], none⟩,
  ⟨(some 10), .nilck (.t 9), none, none, [], none⟩,
  ⟨(some 11), .faddr 1 (.t 10), none, none, [], none⟩,
  ⟨(some 12), .load none (.t 11), none, none, [], none⟩,
  ⟨(some 13), .mv (.t 1), none, none, [], none⟩,
  ⟨(some 14), .apps 5 (.t 12) (.t 13), none, none, [], none⟩,
  ⟨(some 15), .nilck (.t 8), none, none, [], none⟩,
  ⟨(some 16), .faddr 1 (.t 15), none, none, [], none⟩,
  ⟨none, .store 1 (.t 16) (.t 14), none, none, [], none⟩]
def ac_strings_Builder_WriteString_2 : AC := .reg l_strings_Builder_WriteString_2
def l_strings_Builder_WriteString_3 : List AOp := [⟨(some 17), .mv (.t 1), none, none, [], none⟩,
  ⟨(some 18), .lens (.t 17), none, none, [], none⟩,
  ⟨(some 4), .mv (.t 18), none, none, [], none⟩,
  ⟨(some 5), .mv (.k .nili), none, none, [], none⟩]
def ac_strings_Builder_WriteString_3 : AC := .reg l_strings_Builder_WriteString_3
def ac_strings_Builder_WriteString_4 : AC := .seq ac_strings_Builder_WriteString_3 .ret
def ac_strings_Builder_WriteString_5 : AC := .seq ac_strings_Builder_WriteString_2 ac_strings_Builder_WriteString_4
def ac_strings_Builder_WriteString_6 : AC := .seq ac_strings_Builder_WriteString_1 ac_strings_Builder_WriteString_5
def ac_strings_Builder_WriteString_7 : AC := .seq ac_strings_Builder_WriteString_0 ac_strings_Builder_WriteString_6
def ac_strings_Builder_WriteString : AC := ac_strings_Builder_WriteString_7
theorem comp_strings_Builder_WriteString : compF Try.prog [1000078] (drawR Try.prog [1000078] Try.f70.ntmps) [] 2 Try.f70 = some (ac_strings_Builder_WriteString, [.t 4, .t 5]) := by kernel_rfl
def U_strings_Builder_WriteString := (And.intro (And.intro (And.intro (And.intro @ac_strings_Builder_WriteString.eq_1 (@mR _ _ ac_strings_Builder_WriteString_0.eq_1)) (And.intro (@mR _ _ ac_strings_Builder_WriteString_1.eq_1) (@mR _ _ ac_strings_Builder_WriteString_2.eq_1))) (And.intro (And.intro (@mR _ _ ac_strings_Builder_WriteString_3.eq_1) (@mU _ _ ac_strings_Builder_WriteString_4.eq_1)) (@mU _ _ ac_strings_Builder_WriteString_5.eq_1))) (And.intro (And.intro (And.intro (@mU _ _ ac_strings_Builder_WriteString_6.eq_1) (@mU _ _ ac_strings_Builder_WriteString_7.eq_1)) @l_strings_Builder_WriteString_0.eq_1) (And.intro (And.intro @l_strings_Builder_WriteString_1.eq_1 @l_strings_Builder_WriteString_2.eq_1) @l_strings_Builder_WriteString_3.eq_1)))

/- (*strings.Builder).String -/
def l_strings_Builder_String_0 : List AOp := [⟨(some 2), .mv (.k (.str [])), none, none, [], none⟩]
def ac_strings_Builder_String_0 : AC := .reg l_strings_Builder_String_0
def l_strings_Builder_String_1 : List AOp := [⟨(some 3), .mv (.t 0), none, none, [], none⟩,
  ⟨(some 4), .nilck (.t 3), none, none, [], none⟩,
  ⟨(some 5), .faddr 1 (.t 4), none, none, [], none⟩,
  ⟨(some 6), .load none (.t 5), none, none, [], none⟩,
  ⟨(some 7), .usd (.t 6), none, none, [], none⟩,
  ⟨(some 8), .mv (.t 0), none, none, [], none⟩,
  ⟨(some 9), .nilck (.t 8), none, none, [], none⟩,
  ⟨(some 10), .faddr 1 (.t 9), none, none, [], none⟩,
  ⟨(some 11), .load none (.t 10), none, none, [], none⟩,
  ⟨(some 12), .len (.t 11), none, none, [], none⟩,
  ⟨(some 13), .ust 5 (.t 7) (.t 12), none, none, [], none⟩,
  ⟨(some 2), .mv (.t 13), none, none, [], none⟩]
def ac_strings_Builder_String_1 : AC := .dreg 0 l_strings_Builder_String_1
def ac_strings_Builder_String_2 : AC := .seq ac_strings_Builder_String_1 .ret
def ac_strings_Builder_String_3 : AC := .seq ac_strings_Builder_String_0 ac_strings_Builder_String_2
def ac_strings_Builder_String : AC := ac_strings_Builder_String_3
theorem comp_strings_Builder_String : compF Try.prog [] (drawR Try.prog [] Try.f72.ntmps) [] 1 Try.f72 = some (ac_strings_Builder_String, [.t 2]) := by kernel_rfl
def U_strings_Builder_String := (And.intro (And.intro (And.intro @ac_strings_Builder_String.eq_1 (@mR _ _ ac_strings_Builder_String_0.eq_1)) (And.intro (@mD _ _ _ ac_strings_Builder_String_1.eq_1) (@mU _ _ ac_strings_Builder_String_2.eq_1))) (And.intro (And.intro (@mU _ _ ac_strings_Builder_String_3.eq_1) @l_strings_Builder_String_0.eq_1) @l_strings_Builder_String_1.eq_1))

end Go.Proofs.Ythjnfjgejdlbfaa.Aw
