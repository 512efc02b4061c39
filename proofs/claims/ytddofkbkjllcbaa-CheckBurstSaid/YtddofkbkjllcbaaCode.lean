/-
  The functions of the seat, translated to abstract code. Written by a program (wip/Gen2.lean).
-/
import Derived.Test.YtddofkbkjllcbaaAwNum
import Derived.Test.YtddofkbkjllcbaaProg
set_option maxRecDepth 100000
namespace Go.Proofs.Ytddofkbkjllcbaa.Aw
open Go.RowKit
/- scoria/scorialaw02.CheckSums -/
def ac_law02_CheckSums_0 : AC := .reg [⟨(some 4), .mv (.k (.bool false)), none, none, [], none⟩]
theorem u_law02_CheckSums_0 {P bb Q f ob} : AWP P bb ac_law02_CheckSums_0 Q ⟨f, ob⟩ = AWP P bb (.reg [⟨(some 4), .mv (.k (.bool false)), none, none, [], none⟩]) Q ⟨f, ob⟩ := nr rfl
def ac_law02_CheckSums_1 : AC := .reg [⟨(some 5), .mv (.t 0), none, none, [], none⟩,
    ⟨(some 6), .lens (.t 5), none, none, [], none⟩,
    ⟨(some 7), .bin .gtr (.t 6) (.k (.int .i64 20000)), none, none, [], none⟩]
theorem u_law02_CheckSums_1 {P bb Q f ob} : AWP P bb ac_law02_CheckSums_1 Q ⟨f, ob⟩ = AWP P bb (.reg [⟨(some 5), .mv (.t 0), none, none, [], none⟩,
    ⟨(some 6), .lens (.t 5), none, none, [], none⟩,
    ⟨(some 7), .bin .gtr (.t 6) (.k (.int .i64 20000)), none, none, [], none⟩]) Q ⟨f, ob⟩ := nr rfl
def ac_law02_CheckSums_2 : AC := .reg [⟨(some 8), .call false 10 [], none, none, [], none⟩,
    ⟨(some 4), .mv (.t 8), none, none, [], none⟩]
theorem u_law02_CheckSums_2 {P bb Q f ob} : AWP P bb ac_law02_CheckSums_2 Q ⟨f, ob⟩ = AWP P bb (.reg [⟨(some 8), .call false 10 [], none, none, [], none⟩,
    ⟨(some 4), .mv (.t 8), none, none, [], none⟩]) Q ⟨f, ob⟩ := nr rfl
def ac_law02_CheckSums_3 : AC := .seq ac_law02_CheckSums_2 .ret
theorem u_law02_CheckSums_3 {P bb Q f ob} : AWP P bb ac_law02_CheckSums_3 Q ⟨f, ob⟩ = AWP P bb (.seq ac_law02_CheckSums_2 .ret) Q ⟨f, ob⟩ := nr rfl
def ac_law02_CheckSums_4 : AC := .cond (.t 7) ac_law02_CheckSums_3 .skip
theorem u_law02_CheckSums_4 {P bb Q f ob} : AWP P bb ac_law02_CheckSums_4 Q ⟨f, ob⟩ = AWP P bb (.cond (.t 7) ac_law02_CheckSums_3 .skip) Q ⟨f, ob⟩ := nr rfl
def ac_law02_CheckSums_5 : AC := .seq ac_law02_CheckSums_1 ac_law02_CheckSums_4
theorem u_law02_CheckSums_5 {P bb Q f ob} : AWP P bb ac_law02_CheckSums_5 Q ⟨f, ob⟩ = AWP P bb (.seq ac_law02_CheckSums_1 ac_law02_CheckSums_4) Q ⟨f, ob⟩ := nr rfl
def ac_law02_CheckSums_6 : AC := .reg [⟨(some 9), .call false 10 [], none, none, [], none⟩,
    ⟨(some 10), .mv (.t 9), none, none, [], none⟩,
    ⟨(some 11), .mv (.t 0), (some (10, true)), none, [], none⟩,
    ⟨(some 12), .call false 11 [(.t 11)], (some (10, true)), none, [], none⟩,
    ⟨(some 13), .mv (.t 0), (some (10, true)), none, [], none⟩,
    ⟨(some 14), .call false 12 [(.t 13)], (some (10, true)), none, [], none⟩,
    ⟨(some 15), .bin .eql (.t 12) (.t 14), (some (10, true)), none, [], none⟩,
    ⟨(some 16), .pick (.t 10) (.t 15) (.k (.bool false)), none, none, [], none⟩,
    ⟨(some 17), .mv (.t 16), none, none, [], none⟩,
    ⟨(some 18), .mv (.t 1), (some (17, true)), none, [], none⟩,
    ⟨(some 19), .mv (.t 0), (some (17, true)), none, [], none⟩,
    ⟨(some 20), .call false 13 [(.t 18), (.t 19)], (some (17, true)), none, [], none⟩,
    ⟨(some 21), .mv (.t 1), (some (17, true)), none, [], none⟩,
    ⟨(some 22), .mv (.t 0), (some (17, true)), none, [], none⟩,
    ⟨(some 23), .call false 14 [(.t 21), (.t 22)], (some (17, true)), none, [], none⟩,
    ⟨(some 24), .bin .eql (.t 20) (.t 23), (some (17, true)), none, [], none⟩,
    ⟨(some 25), .pick (.t 17) (.t 24) (.k (.bool false)), none, none, [], none⟩,
    ⟨(some 4), .mv (.t 25), none, none, [], none⟩]
theorem u_law02_CheckSums_6 {P bb Q f ob} : AWP P bb ac_law02_CheckSums_6 Q ⟨f, ob⟩ = AWP P bb (.reg [⟨(some 9), .call false 10 [], none, none, [], none⟩,
    ⟨(some 10), .mv (.t 9), none, none, [], none⟩,
    ⟨(some 11), .mv (.t 0), (some (10, true)), none, [], none⟩,
    ⟨(some 12), .call false 11 [(.t 11)], (some (10, true)), none, [], none⟩,
    ⟨(some 13), .mv (.t 0), (some (10, true)), none, [], none⟩,
    ⟨(some 14), .call false 12 [(.t 13)], (some (10, true)), none, [], none⟩,
    ⟨(some 15), .bin .eql (.t 12) (.t 14), (some (10, true)), none, [], none⟩,
    ⟨(some 16), .pick (.t 10) (.t 15) (.k (.bool false)), none, none, [], none⟩,
    ⟨(some 17), .mv (.t 16), none, none, [], none⟩,
    ⟨(some 18), .mv (.t 1), (some (17, true)), none, [], none⟩,
    ⟨(some 19), .mv (.t 0), (some (17, true)), none, [], none⟩,
    ⟨(some 20), .call false 13 [(.t 18), (.t 19)], (some (17, true)), none, [], none⟩,
    ⟨(some 21), .mv (.t 1), (some (17, true)), none, [], none⟩,
    ⟨(some 22), .mv (.t 0), (some (17, true)), none, [], none⟩,
    ⟨(some 23), .call false 14 [(.t 21), (.t 22)], (some (17, true)), none, [], none⟩,
    ⟨(some 24), .bin .eql (.t 20) (.t 23), (some (17, true)), none, [], none⟩,
    ⟨(some 25), .pick (.t 17) (.t 24) (.k (.bool false)), none, none, [], none⟩,
    ⟨(some 4), .mv (.t 25), none, none, [], none⟩]) Q ⟨f, ob⟩ := nr rfl
def ac_law02_CheckSums_7 : AC := .seq ac_law02_CheckSums_6 .ret
theorem u_law02_CheckSums_7 {P bb Q f ob} : AWP P bb ac_law02_CheckSums_7 Q ⟨f, ob⟩ = AWP P bb (.seq ac_law02_CheckSums_6 .ret) Q ⟨f, ob⟩ := nr rfl
def ac_law02_CheckSums_8 : AC := .seq ac_law02_CheckSums_5 ac_law02_CheckSums_7
theorem u_law02_CheckSums_8 {P bb Q f ob} : AWP P bb ac_law02_CheckSums_8 Q ⟨f, ob⟩ = AWP P bb (.seq ac_law02_CheckSums_5 ac_law02_CheckSums_7) Q ⟨f, ob⟩ := nr rfl
def ac_law02_CheckSums_9 : AC := .seq ac_law02_CheckSums_0 ac_law02_CheckSums_8
theorem u_law02_CheckSums_9 {P bb Q f ob} : AWP P bb ac_law02_CheckSums_9 Q ⟨f, ob⟩ = AWP P bb (.seq ac_law02_CheckSums_0 ac_law02_CheckSums_8) Q ⟨f, ob⟩ := nr rfl
def ac_law02_CheckSums : AC := ac_law02_CheckSums_9
theorem comp_law02_CheckSums : compF Try.prog [] (drawR Try.prog [] Try.f3.ntmps) [] 2 Try.f3 = some (ac_law02_CheckSums, [.t 4]) := by kernel_rfl

/- scoria/scorialaw02.CheckSeals -/
def ac_law02_CheckSeals_0 : AC := .reg [⟨(some 2), .mv (.k (.bool false)), none, none, [], none⟩]
theorem u_law02_CheckSeals_0 {P bb Q f ob} : AWP P bb ac_law02_CheckSeals_0 Q ⟨f, ob⟩ = AWP P bb (.reg [⟨(some 2), .mv (.k (.bool false)), none, none, [], none⟩]) Q ⟨f, ob⟩ := nr rfl
def ac_law02_CheckSeals_1 : AC := .reg [⟨(some 3), .mv (.t 0), none, none, [], none⟩,
    ⟨(some 4), .lens (.t 3), none, none, [], none⟩,
    ⟨(some 5), .bin .gtr (.t 4) (.k (.int .i64 20000)), none, none, [], none⟩]
theorem u_law02_CheckSeals_1 {P bb Q f ob} : AWP P bb ac_law02_CheckSeals_1 Q ⟨f, ob⟩ = AWP P bb (.reg [⟨(some 3), .mv (.t 0), none, none, [], none⟩,
    ⟨(some 4), .lens (.t 3), none, none, [], none⟩,
    ⟨(some 5), .bin .gtr (.t 4) (.k (.int .i64 20000)), none, none, [], none⟩]) Q ⟨f, ob⟩ := nr rfl
def ac_law02_CheckSeals_2 : AC := .reg [⟨(some 6), .call false 10 [], none, none, [], none⟩,
    ⟨(some 2), .mv (.t 6), none, none, [], none⟩]
theorem u_law02_CheckSeals_2 {P bb Q f ob} : AWP P bb ac_law02_CheckSeals_2 Q ⟨f, ob⟩ = AWP P bb (.reg [⟨(some 6), .call false 10 [], none, none, [], none⟩,
    ⟨(some 2), .mv (.t 6), none, none, [], none⟩]) Q ⟨f, ob⟩ := nr rfl
def ac_law02_CheckSeals_3 : AC := .seq ac_law02_CheckSeals_2 .ret
theorem u_law02_CheckSeals_3 {P bb Q f ob} : AWP P bb ac_law02_CheckSeals_3 Q ⟨f, ob⟩ = AWP P bb (.seq ac_law02_CheckSeals_2 .ret) Q ⟨f, ob⟩ := nr rfl
def ac_law02_CheckSeals_4 : AC := .cond (.t 5) ac_law02_CheckSeals_3 .skip
theorem u_law02_CheckSeals_4 {P bb Q f ob} : AWP P bb ac_law02_CheckSeals_4 Q ⟨f, ob⟩ = AWP P bb (.cond (.t 5) ac_law02_CheckSeals_3 .skip) Q ⟨f, ob⟩ := nr rfl
def ac_law02_CheckSeals_5 : AC := .seq ac_law02_CheckSeals_1 ac_law02_CheckSeals_4
theorem u_law02_CheckSeals_5 {P bb Q f ob} : AWP P bb ac_law02_CheckSeals_5 Q ⟨f, ob⟩ = AWP P bb (.seq ac_law02_CheckSeals_1 ac_law02_CheckSeals_4) Q ⟨f, ob⟩ := nr rfl
def ac_law02_CheckSeals_6 : AC := .reg [⟨(some 7), .call false 10 [], none, none, [], none⟩,
    ⟨(some 8), .mv (.t 7), none, none, [], none⟩,
    ⟨(some 9), .mv (.t 0), (some (8, true)), none, [], none⟩,
    ⟨(some 10), .call false 15 [(.t 9)], (some (8, true)), none, [], none⟩,
    ⟨(some 11), .mv (.t 0), (some (8, true)), none, [], none⟩,
    ⟨(some 12), .call false 16 [(.t 11)], (some (8, true)), none, [], none⟩,
    ⟨(some 13), .bin .eql (.t 10) (.t 12), (some (8, true)), none, [], none⟩,
    ⟨(some 14), .pick (.t 8) (.t 13) (.k (.bool false)), none, none, [], none⟩,
    ⟨(some 2), .mv (.t 14), none, none, [], none⟩]
theorem u_law02_CheckSeals_6 {P bb Q f ob} : AWP P bb ac_law02_CheckSeals_6 Q ⟨f, ob⟩ = AWP P bb (.reg [⟨(some 7), .call false 10 [], none, none, [], none⟩,
    ⟨(some 8), .mv (.t 7), none, none, [], none⟩,
    ⟨(some 9), .mv (.t 0), (some (8, true)), none, [], none⟩,
    ⟨(some 10), .call false 15 [(.t 9)], (some (8, true)), none, [], none⟩,
    ⟨(some 11), .mv (.t 0), (some (8, true)), none, [], none⟩,
    ⟨(some 12), .call false 16 [(.t 11)], (some (8, true)), none, [], none⟩,
    ⟨(some 13), .bin .eql (.t 10) (.t 12), (some (8, true)), none, [], none⟩,
    ⟨(some 14), .pick (.t 8) (.t 13) (.k (.bool false)), none, none, [], none⟩,
    ⟨(some 2), .mv (.t 14), none, none, [], none⟩]) Q ⟨f, ob⟩ := nr rfl
def ac_law02_CheckSeals_7 : AC := .seq ac_law02_CheckSeals_6 .ret
theorem u_law02_CheckSeals_7 {P bb Q f ob} : AWP P bb ac_law02_CheckSeals_7 Q ⟨f, ob⟩ = AWP P bb (.seq ac_law02_CheckSeals_6 .ret) Q ⟨f, ob⟩ := nr rfl
def ac_law02_CheckSeals_8 : AC := .seq ac_law02_CheckSeals_5 ac_law02_CheckSeals_7
theorem u_law02_CheckSeals_8 {P bb Q f ob} : AWP P bb ac_law02_CheckSeals_8 Q ⟨f, ob⟩ = AWP P bb (.seq ac_law02_CheckSeals_5 ac_law02_CheckSeals_7) Q ⟨f, ob⟩ := nr rfl
def ac_law02_CheckSeals_9 : AC := .seq ac_law02_CheckSeals_0 ac_law02_CheckSeals_8
theorem u_law02_CheckSeals_9 {P bb Q f ob} : AWP P bb ac_law02_CheckSeals_9 Q ⟨f, ob⟩ = AWP P bb (.seq ac_law02_CheckSeals_0 ac_law02_CheckSeals_8) Q ⟨f, ob⟩ := nr rfl
def ac_law02_CheckSeals : AC := ac_law02_CheckSeals_9
theorem comp_law02_CheckSeals : compF Try.prog [] (drawR Try.prog [] Try.f4.ntmps) [] 1 Try.f4 = some (ac_law02_CheckSeals, [.t 2]) := by kernel_rfl

/- scoria/scorialaw02.CheckOpens -/
def ac_law02_CheckOpens_0 : AC := .reg [⟨(some 2), .mv (.k (.bool false)), none, none, [], none⟩]
theorem u_law02_CheckOpens_0 {P bb Q f ob} : AWP P bb ac_law02_CheckOpens_0 Q ⟨f, ob⟩ = AWP P bb (.reg [⟨(some 2), .mv (.k (.bool false)), none, none, [], none⟩]) Q ⟨f, ob⟩ := nr rfl
def ac_law02_CheckOpens_1 : AC := .reg [⟨(some 7), .mv (.t 0), none, none, [], none⟩,
    ⟨(some 8), .lens (.t 7), none, none, [], none⟩,
    ⟨(some 9), .bin .gtr (.t 8) (.k (.int .i64 20000)), none, none, [], none⟩]
theorem u_law02_CheckOpens_1 {P bb Q f ob} : AWP P bb ac_law02_CheckOpens_1 Q ⟨f, ob⟩ = AWP P bb (.reg [⟨(some 7), .mv (.t 0), none, none, [], none⟩,
    ⟨(some 8), .lens (.t 7), none, none, [], none⟩,
    ⟨(some 9), .bin .gtr (.t 8) (.k (.int .i64 20000)), none, none, [], none⟩]) Q ⟨f, ob⟩ := nr rfl
def ac_law02_CheckOpens_2 : AC := .reg [⟨(some 10), .call false 10 [], none, none, [], none⟩,
    ⟨(some 2), .mv (.t 10), none, none, [], none⟩]
theorem u_law02_CheckOpens_2 {P bb Q f ob} : AWP P bb ac_law02_CheckOpens_2 Q ⟨f, ob⟩ = AWP P bb (.reg [⟨(some 10), .call false 10 [], none, none, [], none⟩,
    ⟨(some 2), .mv (.t 10), none, none, [], none⟩]) Q ⟨f, ob⟩ := nr rfl
def ac_law02_CheckOpens_3 : AC := .seq ac_law02_CheckOpens_2 .ret
theorem u_law02_CheckOpens_3 {P bb Q f ob} : AWP P bb ac_law02_CheckOpens_3 Q ⟨f, ob⟩ = AWP P bb (.seq ac_law02_CheckOpens_2 .ret) Q ⟨f, ob⟩ := nr rfl
def ac_law02_CheckOpens_4 : AC := .cond (.t 9) ac_law02_CheckOpens_3 .skip
theorem u_law02_CheckOpens_4 {P bb Q f ob} : AWP P bb ac_law02_CheckOpens_4 Q ⟨f, ob⟩ = AWP P bb (.cond (.t 9) ac_law02_CheckOpens_3 .skip) Q ⟨f, ob⟩ := nr rfl
def ac_law02_CheckOpens_5 : AC := .seq ac_law02_CheckOpens_1 ac_law02_CheckOpens_4
theorem u_law02_CheckOpens_5 {P bb Q f ob} : AWP P bb ac_law02_CheckOpens_5 Q ⟨f, ob⟩ = AWP P bb (.seq ac_law02_CheckOpens_1 ac_law02_CheckOpens_4) Q ⟨f, ob⟩ := nr rfl
def ac_law02_CheckOpens_6 : AC := .reg [⟨(some 12), .mv (.t 0), none, none, [], none⟩,
    ⟨(some 13), .call false 17 [(.t 12)], none, none, [], none⟩,
    ⟨(some 11), .mv (.t 13), none, none, [], none⟩,
    ⟨(some 14), .ext 0 (.t 11), none, none, [], none⟩,
    ⟨(some 15), .ext 1 (.t 11), none, none, [], none⟩,
    ⟨(some 3), .mv (.t 14), none, none, [], none⟩,
    ⟨(some 4), .mv (.t 15), none, none, [], none⟩]
theorem u_law02_CheckOpens_6 {P bb Q f ob} : AWP P bb ac_law02_CheckOpens_6 Q ⟨f, ob⟩ = AWP P bb (.reg [⟨(some 12), .mv (.t 0), none, none, [], none⟩,
    ⟨(some 13), .call false 17 [(.t 12)], none, none, [], none⟩,
    ⟨(some 11), .mv (.t 13), none, none, [], none⟩,
    ⟨(some 14), .ext 0 (.t 11), none, none, [], none⟩,
    ⟨(some 15), .ext 1 (.t 11), none, none, [], none⟩,
    ⟨(some 3), .mv (.t 14), none, none, [], none⟩,
    ⟨(some 4), .mv (.t 15), none, none, [], none⟩]) Q ⟨f, ob⟩ := nr rfl
def ac_law02_CheckOpens_7 : AC := .reg [⟨(some 17), .mv (.t 0), none, none, [], none⟩,
    ⟨(some 18), .call false 18 [(.t 17)], none, none, [], none⟩,
    ⟨(some 16), .mv (.t 18), none, none, [], none⟩,
    ⟨(some 19), .ext 0 (.t 16), none, none, [], none⟩,
    ⟨(some 20), .ext 1 (.t 16), none, none, [], none⟩,
    ⟨(some 5), .mv (.t 19), none, none, [], none⟩,
    ⟨(some 6), .mv (.t 20), none, none, [], none⟩]
theorem u_law02_CheckOpens_7 {P bb Q f ob} : AWP P bb ac_law02_CheckOpens_7 Q ⟨f, ob⟩ = AWP P bb (.reg [⟨(some 17), .mv (.t 0), none, none, [], none⟩,
    ⟨(some 18), .call false 18 [(.t 17)], none, none, [], none⟩,
    ⟨(some 16), .mv (.t 18), none, none, [], none⟩,
    ⟨(some 19), .ext 0 (.t 16), none, none, [], none⟩,
    ⟨(some 20), .ext 1 (.t 16), none, none, [], none⟩,
    ⟨(some 5), .mv (.t 19), none, none, [], none⟩,
    ⟨(some 6), .mv (.t 20), none, none, [], none⟩]) Q ⟨f, ob⟩ := nr rfl
def ac_law02_CheckOpens_8 : AC := .reg [⟨(some 21), .call false 10 [], none, none, [], none⟩,
    ⟨(some 22), .mv (.t 21), none, none, [], none⟩,
    ⟨(some 23), .mv (.t 3), (some (22, true)), none, [], none⟩,
    ⟨(some 24), .mv (.t 5), (some (22, true)), none, [], none⟩,
    ⟨(some 25), .bin .eql (.t 23) (.t 24), (some (22, true)), none, [], none⟩,
    ⟨(some 26), .pick (.t 22) (.t 25) (.k (.bool false)), none, none, [], none⟩,
    ⟨(some 27), .mv (.t 26), none, none, [], none⟩,
    ⟨(some 28), .mv (.t 4), (some (27, true)), none, [], none⟩,
    ⟨(some 29), .mv (.t 6), (some (27, true)), none, [], none⟩,
    ⟨(some 30), .bin .eql (.t 28) (.t 29), (some (27, true)), none, [], none⟩,
    ⟨(some 31), .pick (.t 27) (.t 30) (.k (.bool false)), none, none, [], none⟩,
    ⟨(some 2), .mv (.t 31), none, none, [], none⟩]
theorem u_law02_CheckOpens_8 {P bb Q f ob} : AWP P bb ac_law02_CheckOpens_8 Q ⟨f, ob⟩ = AWP P bb (.reg [⟨(some 21), .call false 10 [], none, none, [], none⟩,
    ⟨(some 22), .mv (.t 21), none, none, [], none⟩,
    ⟨(some 23), .mv (.t 3), (some (22, true)), none, [], none⟩,
    ⟨(some 24), .mv (.t 5), (some (22, true)), none, [], none⟩,
    ⟨(some 25), .bin .eql (.t 23) (.t 24), (some (22, true)), none, [], none⟩,
    ⟨(some 26), .pick (.t 22) (.t 25) (.k (.bool false)), none, none, [], none⟩,
    ⟨(some 27), .mv (.t 26), none, none, [], none⟩,
    ⟨(some 28), .mv (.t 4), (some (27, true)), none, [], none⟩,
    ⟨(some 29), .mv (.t 6), (some (27, true)), none, [], none⟩,
    ⟨(some 30), .bin .eql (.t 28) (.t 29), (some (27, true)), none, [], none⟩,
    ⟨(some 31), .pick (.t 27) (.t 30) (.k (.bool false)), none, none, [], none⟩,
    ⟨(some 2), .mv (.t 31), none, none, [], none⟩]) Q ⟨f, ob⟩ := nr rfl
def ac_law02_CheckOpens_9 : AC := .seq ac_law02_CheckOpens_8 .ret
theorem u_law02_CheckOpens_9 {P bb Q f ob} : AWP P bb ac_law02_CheckOpens_9 Q ⟨f, ob⟩ = AWP P bb (.seq ac_law02_CheckOpens_8 .ret) Q ⟨f, ob⟩ := nr rfl
def ac_law02_CheckOpens_10 : AC := .seq ac_law02_CheckOpens_7 ac_law02_CheckOpens_9
theorem u_law02_CheckOpens_10 {P bb Q f ob} : AWP P bb ac_law02_CheckOpens_10 Q ⟨f, ob⟩ = AWP P bb (.seq ac_law02_CheckOpens_7 ac_law02_CheckOpens_9) Q ⟨f, ob⟩ := nr rfl
def ac_law02_CheckOpens_11 : AC := .seq ac_law02_CheckOpens_6 ac_law02_CheckOpens_10
theorem u_law02_CheckOpens_11 {P bb Q f ob} : AWP P bb ac_law02_CheckOpens_11 Q ⟨f, ob⟩ = AWP P bb (.seq ac_law02_CheckOpens_6 ac_law02_CheckOpens_10) Q ⟨f, ob⟩ := nr rfl
def ac_law02_CheckOpens_12 : AC := .seq ac_law02_CheckOpens_5 ac_law02_CheckOpens_11
theorem u_law02_CheckOpens_12 {P bb Q f ob} : AWP P bb ac_law02_CheckOpens_12 Q ⟨f, ob⟩ = AWP P bb (.seq ac_law02_CheckOpens_5 ac_law02_CheckOpens_11) Q ⟨f, ob⟩ := nr rfl
def ac_law02_CheckOpens_13 : AC := .seq ac_law02_CheckOpens_0 ac_law02_CheckOpens_12
theorem u_law02_CheckOpens_13 {P bb Q f ob} : AWP P bb ac_law02_CheckOpens_13 Q ⟨f, ob⟩ = AWP P bb (.seq ac_law02_CheckOpens_0 ac_law02_CheckOpens_12) Q ⟨f, ob⟩ := nr rfl
def ac_law02_CheckOpens : AC := ac_law02_CheckOpens_13
theorem comp_law02_CheckOpens : compF Try.prog [] (drawR Try.prog [] Try.f5.ntmps) [] 1 Try.f5 = some (ac_law02_CheckOpens, [.t 2]) := by kernel_rfl

/- scoria/scorialaw02.CheckBack -/
def ac_law02_CheckBack_0 : AC := .reg [⟨(some 2), .mv (.k (.bool false)), none, none, [], none⟩]
theorem u_law02_CheckBack_0 {P bb Q f ob} : AWP P bb ac_law02_CheckBack_0 Q ⟨f, ob⟩ = AWP P bb (.reg [⟨(some 2), .mv (.k (.bool false)), none, none, [], none⟩]) Q ⟨f, ob⟩ := nr rfl
def ac_law02_CheckBack_1 : AC := .reg [⟨(some 7), .mv (.t 0), none, none, [], none⟩,
    ⟨(some 8), .lens (.t 7), none, none, [], none⟩,
    ⟨(some 9), .bin .gtr (.t 8) (.k (.int .i64 20000)), none, none, [], none⟩]
theorem u_law02_CheckBack_1 {P bb Q f ob} : AWP P bb ac_law02_CheckBack_1 Q ⟨f, ob⟩ = AWP P bb (.reg [⟨(some 7), .mv (.t 0), none, none, [], none⟩,
    ⟨(some 8), .lens (.t 7), none, none, [], none⟩,
    ⟨(some 9), .bin .gtr (.t 8) (.k (.int .i64 20000)), none, none, [], none⟩]) Q ⟨f, ob⟩ := nr rfl
def ac_law02_CheckBack_2 : AC := .reg [⟨(some 10), .call false 10 [], none, none, [], none⟩,
    ⟨(some 2), .mv (.t 10), none, none, [], none⟩]
theorem u_law02_CheckBack_2 {P bb Q f ob} : AWP P bb ac_law02_CheckBack_2 Q ⟨f, ob⟩ = AWP P bb (.reg [⟨(some 10), .call false 10 [], none, none, [], none⟩,
    ⟨(some 2), .mv (.t 10), none, none, [], none⟩]) Q ⟨f, ob⟩ := nr rfl
def ac_law02_CheckBack_3 : AC := .seq ac_law02_CheckBack_2 .ret
theorem u_law02_CheckBack_3 {P bb Q f ob} : AWP P bb ac_law02_CheckBack_3 Q ⟨f, ob⟩ = AWP P bb (.seq ac_law02_CheckBack_2 .ret) Q ⟨f, ob⟩ := nr rfl
def ac_law02_CheckBack_4 : AC := .cond (.t 9) ac_law02_CheckBack_3 .skip
theorem u_law02_CheckBack_4 {P bb Q f ob} : AWP P bb ac_law02_CheckBack_4 Q ⟨f, ob⟩ = AWP P bb (.cond (.t 9) ac_law02_CheckBack_3 .skip) Q ⟨f, ob⟩ := nr rfl
def ac_law02_CheckBack_5 : AC := .seq ac_law02_CheckBack_1 ac_law02_CheckBack_4
theorem u_law02_CheckBack_5 {P bb Q f ob} : AWP P bb ac_law02_CheckBack_5 Q ⟨f, ob⟩ = AWP P bb (.seq ac_law02_CheckBack_1 ac_law02_CheckBack_4) Q ⟨f, ob⟩ := nr rfl
def ac_law02_CheckBack_6 : AC := .reg [⟨(some 12), .mv (.t 0), none, none, [], none⟩,
    ⟨(some 13), .call false 15 [(.t 12)], none, none, [], none⟩,
    ⟨(some 14), .call false 17 [(.t 13)], none, none, [], none⟩,
    ⟨(some 11), .mv (.t 14), none, none, [], none⟩,
    ⟨(some 15), .ext 0 (.t 11), none, none, [], none⟩,
    ⟨(some 16), .ext 1 (.t 11), none, none, [], none⟩,
    ⟨(some 3), .mv (.t 15), none, none, [], none⟩,
    ⟨(some 4), .mv (.t 16), none, none, [], none⟩]
theorem u_law02_CheckBack_6 {P bb Q f ob} : AWP P bb ac_law02_CheckBack_6 Q ⟨f, ob⟩ = AWP P bb (.reg [⟨(some 12), .mv (.t 0), none, none, [], none⟩,
    ⟨(some 13), .call false 15 [(.t 12)], none, none, [], none⟩,
    ⟨(some 14), .call false 17 [(.t 13)], none, none, [], none⟩,
    ⟨(some 11), .mv (.t 14), none, none, [], none⟩,
    ⟨(some 15), .ext 0 (.t 11), none, none, [], none⟩,
    ⟨(some 16), .ext 1 (.t 11), none, none, [], none⟩,
    ⟨(some 3), .mv (.t 15), none, none, [], none⟩,
    ⟨(some 4), .mv (.t 16), none, none, [], none⟩]) Q ⟨f, ob⟩ := nr rfl
def ac_law02_CheckBack_7 : AC := .reg [⟨(some 18), .mv (.t 0), none, none, [], none⟩,
    ⟨(some 19), .call false 17 [(.t 18)], none, none, [], none⟩,
    ⟨(some 17), .mv (.t 19), none, none, [], none⟩,
    ⟨(some 20), .ext 0 (.t 17), none, none, [], none⟩,
    ⟨(some 21), .ext 1 (.t 17), none, none, [], none⟩,
    ⟨(some 5), .mv (.t 20), none, none, [], none⟩,
    ⟨(some 6), .mv (.t 21), none, none, [], none⟩]
theorem u_law02_CheckBack_7 {P bb Q f ob} : AWP P bb ac_law02_CheckBack_7 Q ⟨f, ob⟩ = AWP P bb (.reg [⟨(some 18), .mv (.t 0), none, none, [], none⟩,
    ⟨(some 19), .call false 17 [(.t 18)], none, none, [], none⟩,
    ⟨(some 17), .mv (.t 19), none, none, [], none⟩,
    ⟨(some 20), .ext 0 (.t 17), none, none, [], none⟩,
    ⟨(some 21), .ext 1 (.t 17), none, none, [], none⟩,
    ⟨(some 5), .mv (.t 20), none, none, [], none⟩,
    ⟨(some 6), .mv (.t 21), none, none, [], none⟩]) Q ⟨f, ob⟩ := nr rfl
def ac_law02_CheckBack_8 : AC := .reg [⟨(some 22), .call false 10 [], none, none, [], none⟩,
    ⟨(some 23), .mv (.t 22), none, none, [], none⟩,
    ⟨(some 24), .mv (.t 4), (some (23, true)), none, [], none⟩,
    ⟨(some 25), .bin .eql (.t 24) (.k (.int .i64 0)), (some (23, true)), none, [], none⟩,
    ⟨(some 26), .pick (.t 23) (.t 25) (.k (.bool false)), none, none, [], none⟩,
    ⟨(some 27), .mv (.t 26), none, none, [], none⟩,
    ⟨(some 28), .mv (.t 3), (some (27, true)), none, [], none⟩,
    ⟨(some 29), .mv (.t 0), (some (27, true)), none, [], none⟩,
    ⟨(some 30), .bin .eql (.t 28) (.t 29), (some (27, true)), none, [], none⟩,
    ⟨(some 31), .pick (.t 27) (.t 30) (.k (.bool false)), none, none, [], none⟩,
    ⟨(some 32), .mv (.t 31), none, none, [], none⟩,
    ⟨(some 33), .mv (.t 6), (some (32, true)), none, [], none⟩,
    ⟨(some 34), .bin .neq (.t 33) (.k (.int .i64 0)), (some (32, true)), none, [], none⟩,
    ⟨(some 35), .mv (.t 34), (some (32, true)), none, [], none⟩,
    ⟨(some 36), .mv (.t 5), (some (35, false)), none, [], none⟩,
    ⟨(some 37), .call false 15 [(.t 36)], (some (35, false)), none, [], none⟩,
    ⟨(some 38), .mv (.t 0), (some (35, false)), none, [], none⟩,
    ⟨(some 39), .bin .eql (.t 37) (.t 38), (some (35, false)), none, [], none⟩,
    ⟨(some 40), .pick (.t 35) (.k (.bool true)) (.t 39), (some (32, true)), none, [], none⟩,
    ⟨(some 41), .pick (.t 32) (.t 40) (.k (.bool false)), none, none, [], none⟩,
    ⟨(some 2), .mv (.t 41), none, none, [], none⟩]
theorem u_law02_CheckBack_8 {P bb Q f ob} : AWP P bb ac_law02_CheckBack_8 Q ⟨f, ob⟩ = AWP P bb (.reg [⟨(some 22), .call false 10 [], none, none, [], none⟩,
    ⟨(some 23), .mv (.t 22), none, none, [], none⟩,
    ⟨(some 24), .mv (.t 4), (some (23, true)), none, [], none⟩,
    ⟨(some 25), .bin .eql (.t 24) (.k (.int .i64 0)), (some (23, true)), none, [], none⟩,
    ⟨(some 26), .pick (.t 23) (.t 25) (.k (.bool false)), none, none, [], none⟩,
    ⟨(some 27), .mv (.t 26), none, none, [], none⟩,
    ⟨(some 28), .mv (.t 3), (some (27, true)), none, [], none⟩,
    ⟨(some 29), .mv (.t 0), (some (27, true)), none, [], none⟩,
    ⟨(some 30), .bin .eql (.t 28) (.t 29), (some (27, true)), none, [], none⟩,
    ⟨(some 31), .pick (.t 27) (.t 30) (.k (.bool false)), none, none, [], none⟩,
    ⟨(some 32), .mv (.t 31), none, none, [], none⟩,
    ⟨(some 33), .mv (.t 6), (some (32, true)), none, [], none⟩,
    ⟨(some 34), .bin .neq (.t 33) (.k (.int .i64 0)), (some (32, true)), none, [], none⟩,
    ⟨(some 35), .mv (.t 34), (some (32, true)), none, [], none⟩,
    ⟨(some 36), .mv (.t 5), (some (35, false)), none, [], none⟩,
    ⟨(some 37), .call false 15 [(.t 36)], (some (35, false)), none, [], none⟩,
    ⟨(some 38), .mv (.t 0), (some (35, false)), none, [], none⟩,
    ⟨(some 39), .bin .eql (.t 37) (.t 38), (some (35, false)), none, [], none⟩,
    ⟨(some 40), .pick (.t 35) (.k (.bool true)) (.t 39), (some (32, true)), none, [], none⟩,
    ⟨(some 41), .pick (.t 32) (.t 40) (.k (.bool false)), none, none, [], none⟩,
    ⟨(some 2), .mv (.t 41), none, none, [], none⟩]) Q ⟨f, ob⟩ := nr rfl
def ac_law02_CheckBack_9 : AC := .seq ac_law02_CheckBack_8 .ret
theorem u_law02_CheckBack_9 {P bb Q f ob} : AWP P bb ac_law02_CheckBack_9 Q ⟨f, ob⟩ = AWP P bb (.seq ac_law02_CheckBack_8 .ret) Q ⟨f, ob⟩ := nr rfl
def ac_law02_CheckBack_10 : AC := .seq ac_law02_CheckBack_7 ac_law02_CheckBack_9
theorem u_law02_CheckBack_10 {P bb Q f ob} : AWP P bb ac_law02_CheckBack_10 Q ⟨f, ob⟩ = AWP P bb (.seq ac_law02_CheckBack_7 ac_law02_CheckBack_9) Q ⟨f, ob⟩ := nr rfl
def ac_law02_CheckBack_11 : AC := .seq ac_law02_CheckBack_6 ac_law02_CheckBack_10
theorem u_law02_CheckBack_11 {P bb Q f ob} : AWP P bb ac_law02_CheckBack_11 Q ⟨f, ob⟩ = AWP P bb (.seq ac_law02_CheckBack_6 ac_law02_CheckBack_10) Q ⟨f, ob⟩ := nr rfl
def ac_law02_CheckBack_12 : AC := .seq ac_law02_CheckBack_5 ac_law02_CheckBack_11
theorem u_law02_CheckBack_12 {P bb Q f ob} : AWP P bb ac_law02_CheckBack_12 Q ⟨f, ob⟩ = AWP P bb (.seq ac_law02_CheckBack_5 ac_law02_CheckBack_11) Q ⟨f, ob⟩ := nr rfl
def ac_law02_CheckBack_13 : AC := .seq ac_law02_CheckBack_0 ac_law02_CheckBack_12
theorem u_law02_CheckBack_13 {P bb Q f ob} : AWP P bb ac_law02_CheckBack_13 Q ⟨f, ob⟩ = AWP P bb (.seq ac_law02_CheckBack_0 ac_law02_CheckBack_12) Q ⟨f, ob⟩ := nr rfl
def ac_law02_CheckBack : AC := ac_law02_CheckBack_13
theorem comp_law02_CheckBack : compF Try.prog [] (drawR Try.prog [] Try.f6.ntmps) [] 1 Try.f6 = some (ac_law02_CheckBack, [.t 2]) := by kernel_rfl

/- scoria/scorialaw02.CheckJoins -/
def ac_law02_CheckJoins_0 : AC := .reg [⟨(some 4), .mv (.k (.bool false)), none, none, [], none⟩]
theorem u_law02_CheckJoins_0 {P bb Q f ob} : AWP P bb ac_law02_CheckJoins_0 Q ⟨f, ob⟩ = AWP P bb (.reg [⟨(some 4), .mv (.k (.bool false)), none, none, [], none⟩]) Q ⟨f, ob⟩ := nr rfl
def ac_law02_CheckJoins_1 : AC := .reg [⟨(some 5), .mv (.t 0), none, none, [], none⟩,
    ⟨(some 6), .lens (.t 5), none, none, [], none⟩,
    ⟨(some 7), .bin .gtr (.t 6) (.k (.int .i64 20000)), none, none, [], none⟩,
    ⟨(some 8), .mv (.t 7), none, none, [], none⟩,
    ⟨(some 9), .mv (.t 1), (some (8, false)), none, [], none⟩,
    ⟨(some 10), .lens (.t 9), (some (8, false)), none, [], none⟩,
    ⟨(some 11), .bin .gtr (.t 10) (.k (.int .i64 20000)), (some (8, false)), none, [], none⟩,
    ⟨(some 12), .pick (.t 8) (.k (.bool true)) (.t 11), none, none, [], none⟩]
theorem u_law02_CheckJoins_1 {P bb Q f ob} : AWP P bb ac_law02_CheckJoins_1 Q ⟨f, ob⟩ = AWP P bb (.reg [⟨(some 5), .mv (.t 0), none, none, [], none⟩,
    ⟨(some 6), .lens (.t 5), none, none, [], none⟩,
    ⟨(some 7), .bin .gtr (.t 6) (.k (.int .i64 20000)), none, none, [], none⟩,
    ⟨(some 8), .mv (.t 7), none, none, [], none⟩,
    ⟨(some 9), .mv (.t 1), (some (8, false)), none, [], none⟩,
    ⟨(some 10), .lens (.t 9), (some (8, false)), none, [], none⟩,
    ⟨(some 11), .bin .gtr (.t 10) (.k (.int .i64 20000)), (some (8, false)), none, [], none⟩,
    ⟨(some 12), .pick (.t 8) (.k (.bool true)) (.t 11), none, none, [], none⟩]) Q ⟨f, ob⟩ := nr rfl
def ac_law02_CheckJoins_2 : AC := .reg [⟨(some 13), .call false 10 [], none, none, [], none⟩,
    ⟨(some 4), .mv (.t 13), none, none, [], none⟩]
theorem u_law02_CheckJoins_2 {P bb Q f ob} : AWP P bb ac_law02_CheckJoins_2 Q ⟨f, ob⟩ = AWP P bb (.reg [⟨(some 13), .call false 10 [], none, none, [], none⟩,
    ⟨(some 4), .mv (.t 13), none, none, [], none⟩]) Q ⟨f, ob⟩ := nr rfl
def ac_law02_CheckJoins_3 : AC := .seq ac_law02_CheckJoins_2 .ret
theorem u_law02_CheckJoins_3 {P bb Q f ob} : AWP P bb ac_law02_CheckJoins_3 Q ⟨f, ob⟩ = AWP P bb (.seq ac_law02_CheckJoins_2 .ret) Q ⟨f, ob⟩ := nr rfl
def ac_law02_CheckJoins_4 : AC := .cond (.t 12) ac_law02_CheckJoins_3 .skip
theorem u_law02_CheckJoins_4 {P bb Q f ob} : AWP P bb ac_law02_CheckJoins_4 Q ⟨f, ob⟩ = AWP P bb (.cond (.t 12) ac_law02_CheckJoins_3 .skip) Q ⟨f, ob⟩ := nr rfl
def ac_law02_CheckJoins_5 : AC := .seq ac_law02_CheckJoins_1 ac_law02_CheckJoins_4
theorem u_law02_CheckJoins_5 {P bb Q f ob} : AWP P bb ac_law02_CheckJoins_5 Q ⟨f, ob⟩ = AWP P bb (.seq ac_law02_CheckJoins_1 ac_law02_CheckJoins_4) Q ⟨f, ob⟩ := nr rfl
def ac_law02_CheckJoins_6 : AC := .reg [⟨(some 14), .call false 10 [], none, none, [], none⟩,
    ⟨(some 15), .mv (.t 14), none, none, [], none⟩,
    ⟨(some 16), .mv (.t 0), (some (15, true)), none, [], none⟩,
    ⟨(some 17), .call false 11 [(.t 16)], (some (15, true)), none, [], none⟩,
    ⟨(some 18), .mv (.t 1), (some (15, true)), none, [], none⟩,
    ⟨(some 19), .call false 13 [(.t 17), (.t 18)], (some (15, true)), none, [], none⟩,
    ⟨(some 20), .mv (.t 0), (some (15, true)), none, [], none⟩,
    ⟨(some 21), .mv (.t 1), (some (15, true)), none, [], none⟩,
    ⟨(some 22), .bin .add (.t 20) (.t 21), (some (15, true)), none, [], none⟩,
    ⟨(some 23), .call false 11 [(.t 22)], (some (15, true)), none, [], none⟩,
    ⟨(some 24), .bin .eql (.t 19) (.t 23), (some (15, true)), none, [], none⟩,
    ⟨(some 25), .pick (.t 15) (.t 24) (.k (.bool false)), none, none, [], none⟩,
    ⟨(some 26), .mv (.t 25), none, none, [], none⟩,
    ⟨(some 27), .mv (.t 0), (some (26, true)), none, [], none⟩,
    ⟨(some 28), .call false 11 [(.t 27)], (some (26, true)), none, [], none⟩,
    ⟨(some 29), .call false 13 [(.t 28), (.k (.str []))], (some (26, true)), none, [], none⟩,
    ⟨(some 30), .mv (.t 0), (some (26, true)), none, [], none⟩,
    ⟨(some 31), .call false 11 [(.t 30)], (some (26, true)), none, [], none⟩,
    ⟨(some 32), .bin .eql (.t 29) (.t 31), (some (26, true)), none, [], none⟩,
    ⟨(some 33), .pick (.t 26) (.t 32) (.k (.bool false)), none, none, [], none⟩,
    ⟨(some 4), .mv (.t 33), none, none, [], none⟩]
theorem u_law02_CheckJoins_6 {P bb Q f ob} : AWP P bb ac_law02_CheckJoins_6 Q ⟨f, ob⟩ = AWP P bb (.reg [⟨(some 14), .call false 10 [], none, none, [], none⟩,
    ⟨(some 15), .mv (.t 14), none, none, [], none⟩,
    ⟨(some 16), .mv (.t 0), (some (15, true)), none, [], none⟩,
    ⟨(some 17), .call false 11 [(.t 16)], (some (15, true)), none, [], none⟩,
    ⟨(some 18), .mv (.t 1), (some (15, true)), none, [], none⟩,
    ⟨(some 19), .call false 13 [(.t 17), (.t 18)], (some (15, true)), none, [], none⟩,
    ⟨(some 20), .mv (.t 0), (some (15, true)), none, [], none⟩,
    ⟨(some 21), .mv (.t 1), (some (15, true)), none, [], none⟩,
    ⟨(some 22), .bin .add (.t 20) (.t 21), (some (15, true)), none, [], none⟩,
    ⟨(some 23), .call false 11 [(.t 22)], (some (15, true)), none, [], none⟩,
    ⟨(some 24), .bin .eql (.t 19) (.t 23), (some (15, true)), none, [], none⟩,
    ⟨(some 25), .pick (.t 15) (.t 24) (.k (.bool false)), none, none, [], none⟩,
    ⟨(some 26), .mv (.t 25), none, none, [], none⟩,
    ⟨(some 27), .mv (.t 0), (some (26, true)), none, [], none⟩,
    ⟨(some 28), .call false 11 [(.t 27)], (some (26, true)), none, [], none⟩,
    ⟨(some 29), .call false 13 [(.t 28), (.k (.str []))], (some (26, true)), none, [], none⟩,
    ⟨(some 30), .mv (.t 0), (some (26, true)), none, [], none⟩,
    ⟨(some 31), .call false 11 [(.t 30)], (some (26, true)), none, [], none⟩,
    ⟨(some 32), .bin .eql (.t 29) (.t 31), (some (26, true)), none, [], none⟩,
    ⟨(some 33), .pick (.t 26) (.t 32) (.k (.bool false)), none, none, [], none⟩,
    ⟨(some 4), .mv (.t 33), none, none, [], none⟩]) Q ⟨f, ob⟩ := nr rfl
def ac_law02_CheckJoins_7 : AC := .seq ac_law02_CheckJoins_6 .ret
theorem u_law02_CheckJoins_7 {P bb Q f ob} : AWP P bb ac_law02_CheckJoins_7 Q ⟨f, ob⟩ = AWP P bb (.seq ac_law02_CheckJoins_6 .ret) Q ⟨f, ob⟩ := nr rfl
def ac_law02_CheckJoins_8 : AC := .seq ac_law02_CheckJoins_5 ac_law02_CheckJoins_7
theorem u_law02_CheckJoins_8 {P bb Q f ob} : AWP P bb ac_law02_CheckJoins_8 Q ⟨f, ob⟩ = AWP P bb (.seq ac_law02_CheckJoins_5 ac_law02_CheckJoins_7) Q ⟨f, ob⟩ := nr rfl
def ac_law02_CheckJoins_9 : AC := .seq ac_law02_CheckJoins_0 ac_law02_CheckJoins_8
theorem u_law02_CheckJoins_9 {P bb Q f ob} : AWP P bb ac_law02_CheckJoins_9 Q ⟨f, ob⟩ = AWP P bb (.seq ac_law02_CheckJoins_0 ac_law02_CheckJoins_8) Q ⟨f, ob⟩ := nr rfl
def ac_law02_CheckJoins : AC := ac_law02_CheckJoins_9
theorem comp_law02_CheckJoins : compF Try.prog [] (drawR Try.prog [] Try.f7.ntmps) [] 2 Try.f7 = some (ac_law02_CheckJoins, [.t 4]) := by kernel_rfl

/- scoria/scorialaw02.CheckBurst -/
def ac_law02_CheckBurst_0 : AC := .reg [⟨(some 6), .mv (.k (.bool false)), none, none, [], none⟩]
theorem u_law02_CheckBurst_0 {P bb Q f ob} : AWP P bb ac_law02_CheckBurst_0 Q ⟨f, ob⟩ = AWP P bb (.reg [⟨(some 6), .mv (.k (.bool false)), none, none, [], none⟩]) Q ⟨f, ob⟩ := nr rfl
def ac_law02_CheckBurst_1 : AC := .reg [⟨(some 14), .mv (.t 0), none, none, [], none⟩,
    ⟨(some 15), .lens (.t 14), none, none, [], none⟩,
    ⟨(some 16), .bin .gtr (.t 15) (.k (.int .i64 20000)), none, none, [], none⟩]
theorem u_law02_CheckBurst_1 {P bb Q f ob} : AWP P bb ac_law02_CheckBurst_1 Q ⟨f, ob⟩ = AWP P bb (.reg [⟨(some 14), .mv (.t 0), none, none, [], none⟩,
    ⟨(some 15), .lens (.t 14), none, none, [], none⟩,
    ⟨(some 16), .bin .gtr (.t 15) (.k (.int .i64 20000)), none, none, [], none⟩]) Q ⟨f, ob⟩ := nr rfl
def ac_law02_CheckBurst_2 : AC := .reg [⟨(some 17), .call false 10 [], none, none, [], none⟩,
    ⟨(some 6), .mv (.t 17), none, none, [], none⟩]
theorem u_law02_CheckBurst_2 {P bb Q f ob} : AWP P bb ac_law02_CheckBurst_2 Q ⟨f, ob⟩ = AWP P bb (.reg [⟨(some 17), .call false 10 [], none, none, [], none⟩,
    ⟨(some 6), .mv (.t 17), none, none, [], none⟩]) Q ⟨f, ob⟩ := nr rfl
def ac_law02_CheckBurst_3 : AC := .seq ac_law02_CheckBurst_2 .ret
theorem u_law02_CheckBurst_3 {P bb Q f ob} : AWP P bb ac_law02_CheckBurst_3 Q ⟨f, ob⟩ = AWP P bb (.seq ac_law02_CheckBurst_2 .ret) Q ⟨f, ob⟩ := nr rfl
def ac_law02_CheckBurst_4 : AC := .cond (.t 16) ac_law02_CheckBurst_3 .skip
theorem u_law02_CheckBurst_4 {P bb Q f ob} : AWP P bb ac_law02_CheckBurst_4 Q ⟨f, ob⟩ = AWP P bb (.cond (.t 16) ac_law02_CheckBurst_3 .skip) Q ⟨f, ob⟩ := nr rfl
def ac_law02_CheckBurst_5 : AC := .seq ac_law02_CheckBurst_1 ac_law02_CheckBurst_4
theorem u_law02_CheckBurst_5 {P bb Q f ob} : AWP P bb ac_law02_CheckBurst_5 Q ⟨f, ob⟩ = AWP P bb (.seq ac_law02_CheckBurst_1 ac_law02_CheckBurst_4) Q ⟨f, ob⟩ := nr rfl
def ac_law02_CheckBurst_6 : AC := .reg [⟨(some 18), .mv (.t 0), none, none, [], none⟩,
    ⟨(some 19), .call false 15 [(.t 18)], none, none, [], none⟩,
    ⟨(some 7), .mv (.t 19), none, none, [], none⟩]
theorem u_law02_CheckBurst_6 {P bb Q f ob} : AWP P bb ac_law02_CheckBurst_6 Q ⟨f, ob⟩ = AWP P bb (.reg [⟨(some 18), .mv (.t 0), none, none, [], none⟩,
    ⟨(some 19), .call false 15 [(.t 18)], none, none, [], none⟩,
    ⟨(some 7), .mv (.t 19), none, none, [], none⟩]) Q ⟨f, ob⟩ := nr rfl
def ac_law02_CheckBurst_7 : AC := .reg [⟨(some 20), .mv (.t 7), none, none, [], none⟩,
    ⟨(some 21), .lens (.t 20), none, none, [], none⟩,
    ⟨(some 22), .mv (.t 0), none, none, [], none⟩,
    ⟨(some 23), .lens (.t 22), none, none, [], none⟩,
    ⟨(some 24), .bin .add (.t 23) (.k (.int .i64 4)), none, none, [], none⟩,
    ⟨(some 25), .bin .neq (.t 21) (.t 24), none, none, [], none⟩]
theorem u_law02_CheckBurst_7 {P bb Q f ob} : AWP P bb ac_law02_CheckBurst_7 Q ⟨f, ob⟩ = AWP P bb (.reg [⟨(some 20), .mv (.t 7), none, none, [], none⟩,
    ⟨(some 21), .lens (.t 20), none, none, [], none⟩,
    ⟨(some 22), .mv (.t 0), none, none, [], none⟩,
    ⟨(some 23), .lens (.t 22), none, none, [], none⟩,
    ⟨(some 24), .bin .add (.t 23) (.k (.int .i64 4)), none, none, [], none⟩,
    ⟨(some 25), .bin .neq (.t 21) (.t 24), none, none, [], none⟩]) Q ⟨f, ob⟩ := nr rfl
def ac_law02_CheckBurst_8 : AC := .reg [⟨(some 6), .mv (.k (.bool false)), none, none, [], none⟩]
theorem u_law02_CheckBurst_8 {P bb Q f ob} : AWP P bb ac_law02_CheckBurst_8 Q ⟨f, ob⟩ = AWP P bb (.reg [⟨(some 6), .mv (.k (.bool false)), none, none, [], none⟩]) Q ⟨f, ob⟩ := nr rfl
def ac_law02_CheckBurst_9 : AC := .seq ac_law02_CheckBurst_8 .ret
theorem u_law02_CheckBurst_9 {P bb Q f ob} : AWP P bb ac_law02_CheckBurst_9 Q ⟨f, ob⟩ = AWP P bb (.seq ac_law02_CheckBurst_8 .ret) Q ⟨f, ob⟩ := nr rfl
def ac_law02_CheckBurst_10 : AC := .cond (.t 25) ac_law02_CheckBurst_9 .skip
theorem u_law02_CheckBurst_10 {P bb Q f ob} : AWP P bb ac_law02_CheckBurst_10 Q ⟨f, ob⟩ = AWP P bb (.cond (.t 25) ac_law02_CheckBurst_9 .skip) Q ⟨f, ob⟩ := nr rfl
def ac_law02_CheckBurst_11 : AC := .seq ac_law02_CheckBurst_7 ac_law02_CheckBurst_10
theorem u_law02_CheckBurst_11 {P bb Q f ob} : AWP P bb ac_law02_CheckBurst_11 Q ⟨f, ob⟩ = AWP P bb (.seq ac_law02_CheckBurst_7 ac_law02_CheckBurst_10) Q ⟨f, ob⟩ := nr rfl
def ac_law02_CheckBurst_12 : AC := .reg [⟨(some 26), .mv (.t 7), none, none, [], none⟩,
    ⟨(some 27), .s2b true (.t 26), none, none, [], none⟩,
    ⟨(some 8), .mv (.t 27), none, none, [], none⟩]
theorem u_law02_CheckBurst_12 {P bb Q f ob} : AWP P bb ac_law02_CheckBurst_12 Q ⟨f, ob⟩ = AWP P bb (.reg [⟨(some 26), .mv (.t 7), none, none, [], none⟩,
    ⟨(some 27), .s2b true (.t 26), none, none, [], none⟩,
    ⟨(some 8), .mv (.t 27), none, none, [], none⟩]) Q ⟨f, ob⟩ := nr rfl
def ac_law02_CheckBurst_13 : AC := .reg [⟨(some 28), .mv (.t 8), none, none, [], none⟩,
    ⟨(some 29), .len (.t 28), none, none, [], none⟩,
    ⟨(some 30), .bin .mul (.k (.int .i64 8)) (.t 29), none, none, [], none⟩,
    ⟨(some 9), .mv (.t 30), none, none, [], none⟩]
theorem u_law02_CheckBurst_13 {P bb Q f ob} : AWP P bb ac_law02_CheckBurst_13 Q ⟨f, ob⟩ = AWP P bb (.reg [⟨(some 28), .mv (.t 8), none, none, [], none⟩,
    ⟨(some 29), .len (.t 28), none, none, [], none⟩,
    ⟨(some 30), .bin .mul (.k (.int .i64 8)) (.t 29), none, none, [], none⟩,
    ⟨(some 9), .mv (.t 30), none, none, [], none⟩]) Q ⟨f, ob⟩ := nr rfl
def ac_law02_CheckBurst_14 : AC := .reg [⟨(some 31), .mv (.t 1), none, none, [], none⟩,
    ⟨(some 32), .mv (.t 9), none, none, [], none⟩,
    ⟨(some 33), .bin .rem (.t 31) (.t 32), none, none, [], none⟩,
    ⟨(some 34), .mv (.t 9), none, none, [], none⟩,
    ⟨(some 35), .bin .add (.t 33) (.t 34), none, none, [], none⟩,
    ⟨(some 36), .mv (.t 9), none, none, [], none⟩,
    ⟨(some 37), .bin .rem (.t 35) (.t 36), none, none, [], none⟩,
    ⟨(some 10), .mv (.t 37), none, none, [], none⟩]
theorem u_law02_CheckBurst_14 {P bb Q f ob} : AWP P bb ac_law02_CheckBurst_14 Q ⟨f, ob⟩ = AWP P bb (.reg [⟨(some 31), .mv (.t 1), none, none, [], none⟩,
    ⟨(some 32), .mv (.t 9), none, none, [], none⟩,
    ⟨(some 33), .bin .rem (.t 31) (.t 32), none, none, [], none⟩,
    ⟨(some 34), .mv (.t 9), none, none, [], none⟩,
    ⟨(some 35), .bin .add (.t 33) (.t 34), none, none, [], none⟩,
    ⟨(some 36), .mv (.t 9), none, none, [], none⟩,
    ⟨(some 37), .bin .rem (.t 35) (.t 36), none, none, [], none⟩,
    ⟨(some 10), .mv (.t 37), none, none, [], none⟩]) Q ⟨f, ob⟩ := nr rfl
def ac_law02_CheckBurst_15 : AC := .reg [⟨(some 11), .mv (.k (.int .i64 0)), none, none, [], none⟩]
theorem u_law02_CheckBurst_15 {P bb Q f ob} : AWP P bb ac_law02_CheckBurst_15 Q ⟨f, ob⟩ = AWP P bb (.reg [⟨(some 11), .mv (.k (.int .i64 0)), none, none, [], none⟩]) Q ⟨f, ob⟩ := nr rfl
def ac_law02_CheckBurst_16 : AC := .reg [⟨(some 38), .mv (.t 11), none, none, [], none⟩,
    ⟨(some 39), .bin .lss (.t 38) (.k (.int .i64 32)), none, none, [], none⟩]
theorem u_law02_CheckBurst_16 {P bb Q f ob} : AWP P bb ac_law02_CheckBurst_16 Q ⟨f, ob⟩ = AWP P bb (.reg [⟨(some 38), .mv (.t 11), none, none, [], none⟩,
    ⟨(some 39), .bin .lss (.t 38) (.k (.int .i64 32)), none, none, [], none⟩]) Q ⟨f, ob⟩ := nr rfl
def ac_law02_CheckBurst_17 : AC := .cond (.t 39) .skip (.exit 0)
theorem u_law02_CheckBurst_17 {P bb Q f ob} : AWP P bb ac_law02_CheckBurst_17 Q ⟨f, ob⟩ = AWP P bb (.cond (.t 39) .skip (.exit 0)) Q ⟨f, ob⟩ := nr rfl
def ac_law02_CheckBurst_18 : AC := .seq ac_law02_CheckBurst_16 ac_law02_CheckBurst_17
theorem u_law02_CheckBurst_18 {P bb Q f ob} : AWP P bb ac_law02_CheckBurst_18 Q ⟨f, ob⟩ = AWP P bb (.seq ac_law02_CheckBurst_16 ac_law02_CheckBurst_17) Q ⟨f, ob⟩ := nr rfl
def ac_law02_CheckBurst_19 : AC := .reg [⟨(some 42), .mv (.t 10), none, none, [], none⟩,
    ⟨(some 43), .mv (.t 11), none, none, [], none⟩,
    ⟨(some 44), .bin .add (.t 42) (.t 43), none, none, [], none⟩,
    ⟨(some 45), .mv (.t 9), none, none, [], none⟩,
    ⟨(some 46), .bin .lss (.t 44) (.t 45), none, none, [], none⟩,
    ⟨(some 47), .mv (.t 46), none, none, [], none⟩,
    ⟨(some 48), .mv (.t 2), (some (47, true)), none, [], none⟩,
    ⟨(some 49), .mv (.t 11), (some (47, true)), none, [], none⟩,
    ⟨(some 50), .bin .sub (.k (.int .i64 31)) (.t 49), (some (47, true)), none, [], none⟩,
    ⟨(some 51), .conv .u64 (.t 50), (some (47, true)), none, [], none⟩,
    ⟨(some 52), .bin .shr (.t 48) (.t 51), (some (47, true)), none, [], none⟩,
    ⟨(some 53), .bin .and (.t 52) (.k (.int .u32 1)), (some (47, true)), none, [], none⟩,
    ⟨(some 54), .bin .eql (.t 53) (.k (.int .u32 1)), (some (47, true)), none, [], none⟩,
    ⟨(some 55), .pick (.t 47) (.t 54) (.k (.bool false)), none, none, [], none⟩]
theorem u_law02_CheckBurst_19 {P bb Q f ob} : AWP P bb ac_law02_CheckBurst_19 Q ⟨f, ob⟩ = AWP P bb (.reg [⟨(some 42), .mv (.t 10), none, none, [], none⟩,
    ⟨(some 43), .mv (.t 11), none, none, [], none⟩,
    ⟨(some 44), .bin .add (.t 42) (.t 43), none, none, [], none⟩,
    ⟨(some 45), .mv (.t 9), none, none, [], none⟩,
    ⟨(some 46), .bin .lss (.t 44) (.t 45), none, none, [], none⟩,
    ⟨(some 47), .mv (.t 46), none, none, [], none⟩,
    ⟨(some 48), .mv (.t 2), (some (47, true)), none, [], none⟩,
    ⟨(some 49), .mv (.t 11), (some (47, true)), none, [], none⟩,
    ⟨(some 50), .bin .sub (.k (.int .i64 31)) (.t 49), (some (47, true)), none, [], none⟩,
    ⟨(some 51), .conv .u64 (.t 50), (some (47, true)), none, [], none⟩,
    ⟨(some 52), .bin .shr (.t 48) (.t 51), (some (47, true)), none, [], none⟩,
    ⟨(some 53), .bin .and (.t 52) (.k (.int .u32 1)), (some (47, true)), none, [], none⟩,
    ⟨(some 54), .bin .eql (.t 53) (.k (.int .u32 1)), (some (47, true)), none, [], none⟩,
    ⟨(some 55), .pick (.t 47) (.t 54) (.k (.bool false)), none, none, [], none⟩]) Q ⟨f, ob⟩ := nr rfl
def ac_law02_CheckBurst_20 : AC := .reg [⟨(some 56), .mv (.t 8), none, none, [], none⟩,
    ⟨(some 57), .mv (.t 10), none, none, [], none⟩,
    ⟨(some 58), .mv (.t 11), none, none, [], none⟩,
    ⟨(some 59), .bin .add (.t 57) (.t 58), none, none, [], none⟩,
    ⟨(some 60), .bin .quo (.t 59) (.k (.int .i64 8)), none, none, [], none⟩,
    ⟨(some 61), .mv (.t 8), none, none, [], none⟩,
    ⟨(some 62), .mv (.t 10), none, none, [], none⟩,
    ⟨(some 63), .mv (.t 11), none, none, [], none⟩,
    ⟨(some 64), .bin .add (.t 62) (.t 63), none, none, [], none⟩,
    ⟨(some 65), .bin .quo (.t 64) (.k (.int .i64 8)), none, none, [], none⟩,
    ⟨(some 66), .isl 1 (.t 61) (.t 65), none, none, [], none⟩,
    ⟨(some 67), .load none (.t 66), none, none, [], none⟩,
    ⟨(some 68), .mv (.t 10), none, none, [], none⟩,
    ⟨(some 69), .mv (.t 11), none, none, [], none⟩,
    ⟨(some 70), .bin .add (.t 68) (.t 69), none, none, [], none⟩,
    ⟨(some 71), .bin .rem (.t 70) (.k (.int .i64 8)), none, none, [], none⟩,
    ⟨(some 72), .conv .u64 (.t 71), none, none, [], none⟩,
    ⟨(some 73), .bin .shr (.k (.int .u8 128)) (.t 72), none, none, [], none⟩,
    ⟨(some 74), .bin .xor (.t 67) (.t 73), none, none, [], none⟩,
    ⟨(some 75), .isl 1 (.t 56) (.t 60), none, none, [], none⟩,
    ⟨none, .store 1 (.t 75) (.t 74), none, none, [], none⟩]
theorem u_law02_CheckBurst_20 {P bb Q f ob} : AWP P bb ac_law02_CheckBurst_20 Q ⟨f, ob⟩ = AWP P bb (.reg [⟨(some 56), .mv (.t 8), none, none, [], none⟩,
    ⟨(some 57), .mv (.t 10), none, none, [], none⟩,
    ⟨(some 58), .mv (.t 11), none, none, [], none⟩,
    ⟨(some 59), .bin .add (.t 57) (.t 58), none, none, [], none⟩,
    ⟨(some 60), .bin .quo (.t 59) (.k (.int .i64 8)), none, none, [], none⟩,
    ⟨(some 61), .mv (.t 8), none, none, [], none⟩,
    ⟨(some 62), .mv (.t 10), none, none, [], none⟩,
    ⟨(some 63), .mv (.t 11), none, none, [], none⟩,
    ⟨(some 64), .bin .add (.t 62) (.t 63), none, none, [], none⟩,
    ⟨(some 65), .bin .quo (.t 64) (.k (.int .i64 8)), none, none, [], none⟩,
    ⟨(some 66), .isl 1 (.t 61) (.t 65), none, none, [], none⟩,
    ⟨(some 67), .load none (.t 66), none, none, [], none⟩,
    ⟨(some 68), .mv (.t 10), none, none, [], none⟩,
    ⟨(some 69), .mv (.t 11), none, none, [], none⟩,
    ⟨(some 70), .bin .add (.t 68) (.t 69), none, none, [], none⟩,
    ⟨(some 71), .bin .rem (.t 70) (.k (.int .i64 8)), none, none, [], none⟩,
    ⟨(some 72), .conv .u64 (.t 71), none, none, [], none⟩,
    ⟨(some 73), .bin .shr (.k (.int .u8 128)) (.t 72), none, none, [], none⟩,
    ⟨(some 74), .bin .xor (.t 67) (.t 73), none, none, [], none⟩,
    ⟨(some 75), .isl 1 (.t 56) (.t 60), none, none, [], none⟩,
    ⟨none, .store 1 (.t 75) (.t 74), none, none, [], none⟩]) Q ⟨f, ob⟩ := nr rfl
def ac_law02_CheckBurst_21 : AC := .cond (.t 55) ac_law02_CheckBurst_20 .skip
theorem u_law02_CheckBurst_21 {P bb Q f ob} : AWP P bb ac_law02_CheckBurst_21 Q ⟨f, ob⟩ = AWP P bb (.cond (.t 55) ac_law02_CheckBurst_20 .skip) Q ⟨f, ob⟩ := nr rfl
def ac_law02_CheckBurst_22 : AC := .seq ac_law02_CheckBurst_19 ac_law02_CheckBurst_21
theorem u_law02_CheckBurst_22 {P bb Q f ob} : AWP P bb ac_law02_CheckBurst_22 Q ⟨f, ob⟩ = AWP P bb (.seq ac_law02_CheckBurst_19 ac_law02_CheckBurst_21) Q ⟨f, ob⟩ := nr rfl
def ac_law02_CheckBurst_23 : AC := .block 1 ac_law02_CheckBurst_22
theorem u_law02_CheckBurst_23 {P bb Q f ob} : AWP P bb ac_law02_CheckBurst_23 Q ⟨f, ob⟩ = AWP P bb (.block 1 ac_law02_CheckBurst_22) Q ⟨f, ob⟩ := nr rfl
def ac_law02_CheckBurst_24 : AC := .reg [⟨(some 40), .mv (.t 11), none, none, [], none⟩,
    ⟨(some 41), .bin .add (.t 40) (.k (.int .i64 1)), none, none, [], none⟩,
    ⟨(some 11), .mv (.t 41), none, none, [], none⟩]
theorem u_law02_CheckBurst_24 {P bb Q f ob} : AWP P bb ac_law02_CheckBurst_24 Q ⟨f, ob⟩ = AWP P bb (.reg [⟨(some 40), .mv (.t 11), none, none, [], none⟩,
    ⟨(some 41), .bin .add (.t 40) (.k (.int .i64 1)), none, none, [], none⟩,
    ⟨(some 11), .mv (.t 41), none, none, [], none⟩]) Q ⟨f, ob⟩ := nr rfl
def ac_law02_CheckBurst_25 : AC := .seq ac_law02_CheckBurst_23 ac_law02_CheckBurst_24
theorem u_law02_CheckBurst_25 {P bb Q f ob} : AWP P bb ac_law02_CheckBurst_25 Q ⟨f, ob⟩ = AWP P bb (.seq ac_law02_CheckBurst_23 ac_law02_CheckBurst_24) Q ⟨f, ob⟩ := nr rfl
def ac_law02_CheckBurst_26 : AC := .seq ac_law02_CheckBurst_18 ac_law02_CheckBurst_25
theorem u_law02_CheckBurst_26 {P bb Q f ob} : AWP P bb ac_law02_CheckBurst_26 Q ⟨f, ob⟩ = AWP P bb (.seq ac_law02_CheckBurst_18 ac_law02_CheckBurst_25) Q ⟨f, ob⟩ := nr rfl
def ac_law02_CheckBurst_27 : AC := .loop [0, 2, 7, 8, 9, 10, 11] 1 ac_law02_CheckBurst_26
theorem u_law02_CheckBurst_27 {P bb Q f ob} : AWP P bb ac_law02_CheckBurst_27 Q ⟨f, ob⟩ = AWP P bb (.loop [0, 2, 7, 8, 9, 10, 11] 1 ac_law02_CheckBurst_26) Q ⟨f, ob⟩ := nr rfl
def ac_law02_CheckBurst_28 : AC := .block 0 ac_law02_CheckBurst_27
theorem u_law02_CheckBurst_28 {P bb Q f ob} : AWP P bb ac_law02_CheckBurst_28 Q ⟨f, ob⟩ = AWP P bb (.block 0 ac_law02_CheckBurst_27) Q ⟨f, ob⟩ := nr rfl
def ac_law02_CheckBurst_29 : AC := .seq ac_law02_CheckBurst_15 ac_law02_CheckBurst_28
theorem u_law02_CheckBurst_29 {P bb Q f ob} : AWP P bb ac_law02_CheckBurst_29 Q ⟨f, ob⟩ = AWP P bb (.seq ac_law02_CheckBurst_15 ac_law02_CheckBurst_28) Q ⟨f, ob⟩ := nr rfl
def ac_law02_CheckBurst_30 : AC := .reg [⟨(some 77), .mv (.t 8), none, none, [], none⟩,
    ⟨(some 78), .b2s (.t 77), none, none, [], none⟩,
    ⟨(some 79), .call false 17 [(.t 78)], none, none, [], none⟩,
    ⟨(some 76), .mv (.t 79), none, none, [], none⟩,
    ⟨(some 80), .ext 0 (.t 76), none, none, [], none⟩,
    ⟨(some 81), .ext 1 (.t 76), none, none, [], none⟩,
    ⟨(some 12), .mv (.t 80), none, none, [], none⟩,
    ⟨(some 13), .mv (.t 81), none, none, [], none⟩]
theorem u_law02_CheckBurst_30 {P bb Q f ob} : AWP P bb ac_law02_CheckBurst_30 Q ⟨f, ob⟩ = AWP P bb (.reg [⟨(some 77), .mv (.t 8), none, none, [], none⟩,
    ⟨(some 78), .b2s (.t 77), none, none, [], none⟩,
    ⟨(some 79), .call false 17 [(.t 78)], none, none, [], none⟩,
    ⟨(some 76), .mv (.t 79), none, none, [], none⟩,
    ⟨(some 80), .ext 0 (.t 76), none, none, [], none⟩,
    ⟨(some 81), .ext 1 (.t 76), none, none, [], none⟩,
    ⟨(some 12), .mv (.t 80), none, none, [], none⟩,
    ⟨(some 13), .mv (.t 81), none, none, [], none⟩]) Q ⟨f, ob⟩ := nr rfl
def ac_law02_CheckBurst_31 : AC := .reg [⟨(some 82), .mv (.t 8), none, none, [], none⟩,
    ⟨(some 83), .b2s (.t 82), none, none, [], none⟩,
    ⟨(some 84), .mv (.t 7), none, none, [], none⟩,
    ⟨(some 85), .bin .eql (.t 83) (.t 84), none, none, [], none⟩]
theorem u_law02_CheckBurst_31 {P bb Q f ob} : AWP P bb ac_law02_CheckBurst_31 Q ⟨f, ob⟩ = AWP P bb (.reg [⟨(some 82), .mv (.t 8), none, none, [], none⟩,
    ⟨(some 83), .b2s (.t 82), none, none, [], none⟩,
    ⟨(some 84), .mv (.t 7), none, none, [], none⟩,
    ⟨(some 85), .bin .eql (.t 83) (.t 84), none, none, [], none⟩]) Q ⟨f, ob⟩ := nr rfl
def ac_law02_CheckBurst_32 : AC := .reg [⟨(some 86), .call false 10 [], none, none, [], none⟩,
    ⟨(some 87), .mv (.t 86), none, none, [], none⟩,
    ⟨(some 88), .mv (.t 13), (some (87, true)), none, [], none⟩,
    ⟨(some 89), .bin .eql (.t 88) (.k (.int .i64 0)), (some (87, true)), none, [], none⟩,
    ⟨(some 90), .pick (.t 87) (.t 89) (.k (.bool false)), none, none, [], none⟩,
    ⟨(some 91), .mv (.t 90), none, none, [], none⟩,
    ⟨(some 92), .mv (.t 12), (some (91, true)), none, [], none⟩,
    ⟨(some 93), .mv (.t 0), (some (91, true)), none, [], none⟩,
    ⟨(some 94), .bin .eql (.t 92) (.t 93), (some (91, true)), none, [], none⟩,
    ⟨(some 95), .pick (.t 91) (.t 94) (.k (.bool false)), none, none, [], none⟩,
    ⟨(some 6), .mv (.t 95), none, none, [], none⟩]
theorem u_law02_CheckBurst_32 {P bb Q f ob} : AWP P bb ac_law02_CheckBurst_32 Q ⟨f, ob⟩ = AWP P bb (.reg [⟨(some 86), .call false 10 [], none, none, [], none⟩,
    ⟨(some 87), .mv (.t 86), none, none, [], none⟩,
    ⟨(some 88), .mv (.t 13), (some (87, true)), none, [], none⟩,
    ⟨(some 89), .bin .eql (.t 88) (.k (.int .i64 0)), (some (87, true)), none, [], none⟩,
    ⟨(some 90), .pick (.t 87) (.t 89) (.k (.bool false)), none, none, [], none⟩,
    ⟨(some 91), .mv (.t 90), none, none, [], none⟩,
    ⟨(some 92), .mv (.t 12), (some (91, true)), none, [], none⟩,
    ⟨(some 93), .mv (.t 0), (some (91, true)), none, [], none⟩,
    ⟨(some 94), .bin .eql (.t 92) (.t 93), (some (91, true)), none, [], none⟩,
    ⟨(some 95), .pick (.t 91) (.t 94) (.k (.bool false)), none, none, [], none⟩,
    ⟨(some 6), .mv (.t 95), none, none, [], none⟩]) Q ⟨f, ob⟩ := nr rfl
def ac_law02_CheckBurst_33 : AC := .seq ac_law02_CheckBurst_32 .ret
theorem u_law02_CheckBurst_33 {P bb Q f ob} : AWP P bb ac_law02_CheckBurst_33 Q ⟨f, ob⟩ = AWP P bb (.seq ac_law02_CheckBurst_32 .ret) Q ⟨f, ob⟩ := nr rfl
def ac_law02_CheckBurst_34 : AC := .cond (.t 85) ac_law02_CheckBurst_33 .skip
theorem u_law02_CheckBurst_34 {P bb Q f ob} : AWP P bb ac_law02_CheckBurst_34 Q ⟨f, ob⟩ = AWP P bb (.cond (.t 85) ac_law02_CheckBurst_33 .skip) Q ⟨f, ob⟩ := nr rfl
def ac_law02_CheckBurst_35 : AC := .seq ac_law02_CheckBurst_31 ac_law02_CheckBurst_34
theorem u_law02_CheckBurst_35 {P bb Q f ob} : AWP P bb ac_law02_CheckBurst_35 Q ⟨f, ob⟩ = AWP P bb (.seq ac_law02_CheckBurst_31 ac_law02_CheckBurst_34) Q ⟨f, ob⟩ := nr rfl
def ac_law02_CheckBurst_36 : AC := .reg [⟨(some 96), .call false 10 [], none, none, [], none⟩,
    ⟨(some 97), .mv (.t 96), none, none, [], none⟩,
    ⟨(some 98), .mv (.t 13), (some (97, true)), none, [], none⟩,
    ⟨(some 99), .bin .eql (.t 98) (.k (.int .i64 6)), (some (97, true)), none, [], none⟩,
    ⟨(some 100), .pick (.t 97) (.t 99) (.k (.bool false)), none, none, [], none⟩,
    ⟨(some 101), .mv (.t 100), none, none, [], none⟩,
    ⟨(some 102), .mv (.t 12), (some (101, true)), none, [], none⟩,
    ⟨(some 103), .bin .eql (.t 102) (.k (.str [])), (some (101, true)), none, [], none⟩,
    ⟨(some 104), .pick (.t 101) (.t 103) (.k (.bool false)), none, none, [], none⟩,
    ⟨(some 6), .mv (.t 104), none, none, [], none⟩]
theorem u_law02_CheckBurst_36 {P bb Q f ob} : AWP P bb ac_law02_CheckBurst_36 Q ⟨f, ob⟩ = AWP P bb (.reg [⟨(some 96), .call false 10 [], none, none, [], none⟩,
    ⟨(some 97), .mv (.t 96), none, none, [], none⟩,
    ⟨(some 98), .mv (.t 13), (some (97, true)), none, [], none⟩,
    ⟨(some 99), .bin .eql (.t 98) (.k (.int .i64 6)), (some (97, true)), none, [], none⟩,
    ⟨(some 100), .pick (.t 97) (.t 99) (.k (.bool false)), none, none, [], none⟩,
    ⟨(some 101), .mv (.t 100), none, none, [], none⟩,
    ⟨(some 102), .mv (.t 12), (some (101, true)), none, [], none⟩,
    ⟨(some 103), .bin .eql (.t 102) (.k (.str [])), (some (101, true)), none, [], none⟩,
    ⟨(some 104), .pick (.t 101) (.t 103) (.k (.bool false)), none, none, [], none⟩,
    ⟨(some 6), .mv (.t 104), none, none, [], none⟩]) Q ⟨f, ob⟩ := nr rfl
def ac_law02_CheckBurst_37 : AC := .seq ac_law02_CheckBurst_36 .ret
theorem u_law02_CheckBurst_37 {P bb Q f ob} : AWP P bb ac_law02_CheckBurst_37 Q ⟨f, ob⟩ = AWP P bb (.seq ac_law02_CheckBurst_36 .ret) Q ⟨f, ob⟩ := nr rfl
def ac_law02_CheckBurst_38 : AC := .seq ac_law02_CheckBurst_35 ac_law02_CheckBurst_37
theorem u_law02_CheckBurst_38 {P bb Q f ob} : AWP P bb ac_law02_CheckBurst_38 Q ⟨f, ob⟩ = AWP P bb (.seq ac_law02_CheckBurst_35 ac_law02_CheckBurst_37) Q ⟨f, ob⟩ := nr rfl
def ac_law02_CheckBurst_39 : AC := .seq ac_law02_CheckBurst_30 ac_law02_CheckBurst_38
theorem u_law02_CheckBurst_39 {P bb Q f ob} : AWP P bb ac_law02_CheckBurst_39 Q ⟨f, ob⟩ = AWP P bb (.seq ac_law02_CheckBurst_30 ac_law02_CheckBurst_38) Q ⟨f, ob⟩ := nr rfl
def ac_law02_CheckBurst_40 : AC := .seq ac_law02_CheckBurst_29 ac_law02_CheckBurst_39
theorem u_law02_CheckBurst_40 {P bb Q f ob} : AWP P bb ac_law02_CheckBurst_40 Q ⟨f, ob⟩ = AWP P bb (.seq ac_law02_CheckBurst_29 ac_law02_CheckBurst_39) Q ⟨f, ob⟩ := nr rfl
def ac_law02_CheckBurst_41 : AC := .seq ac_law02_CheckBurst_14 ac_law02_CheckBurst_40
theorem u_law02_CheckBurst_41 {P bb Q f ob} : AWP P bb ac_law02_CheckBurst_41 Q ⟨f, ob⟩ = AWP P bb (.seq ac_law02_CheckBurst_14 ac_law02_CheckBurst_40) Q ⟨f, ob⟩ := nr rfl
def ac_law02_CheckBurst_42 : AC := .seq ac_law02_CheckBurst_13 ac_law02_CheckBurst_41
theorem u_law02_CheckBurst_42 {P bb Q f ob} : AWP P bb ac_law02_CheckBurst_42 Q ⟨f, ob⟩ = AWP P bb (.seq ac_law02_CheckBurst_13 ac_law02_CheckBurst_41) Q ⟨f, ob⟩ := nr rfl
def ac_law02_CheckBurst_43 : AC := .seq ac_law02_CheckBurst_12 ac_law02_CheckBurst_42
theorem u_law02_CheckBurst_43 {P bb Q f ob} : AWP P bb ac_law02_CheckBurst_43 Q ⟨f, ob⟩ = AWP P bb (.seq ac_law02_CheckBurst_12 ac_law02_CheckBurst_42) Q ⟨f, ob⟩ := nr rfl
def ac_law02_CheckBurst_44 : AC := .seq ac_law02_CheckBurst_11 ac_law02_CheckBurst_43
theorem u_law02_CheckBurst_44 {P bb Q f ob} : AWP P bb ac_law02_CheckBurst_44 Q ⟨f, ob⟩ = AWP P bb (.seq ac_law02_CheckBurst_11 ac_law02_CheckBurst_43) Q ⟨f, ob⟩ := nr rfl
def ac_law02_CheckBurst_45 : AC := .seq ac_law02_CheckBurst_6 ac_law02_CheckBurst_44
theorem u_law02_CheckBurst_45 {P bb Q f ob} : AWP P bb ac_law02_CheckBurst_45 Q ⟨f, ob⟩ = AWP P bb (.seq ac_law02_CheckBurst_6 ac_law02_CheckBurst_44) Q ⟨f, ob⟩ := nr rfl
def ac_law02_CheckBurst_46 : AC := .seq ac_law02_CheckBurst_5 ac_law02_CheckBurst_45
theorem u_law02_CheckBurst_46 {P bb Q f ob} : AWP P bb ac_law02_CheckBurst_46 Q ⟨f, ob⟩ = AWP P bb (.seq ac_law02_CheckBurst_5 ac_law02_CheckBurst_45) Q ⟨f, ob⟩ := nr rfl
def ac_law02_CheckBurst_47 : AC := .seq ac_law02_CheckBurst_0 ac_law02_CheckBurst_46
theorem u_law02_CheckBurst_47 {P bb Q f ob} : AWP P bb ac_law02_CheckBurst_47 Q ⟨f, ob⟩ = AWP P bb (.seq ac_law02_CheckBurst_0 ac_law02_CheckBurst_46) Q ⟨f, ob⟩ := nr rfl
def ac_law02_CheckBurst : AC := ac_law02_CheckBurst_47
theorem comp_law02_CheckBurst : compF Try.prog [27] (drawR Try.prog [27] Try.f8.ntmps) [([0, 2, 7, 8, 9, 10, 11], 1)] 3 Try.f8 = some (ac_law02_CheckBurst, [.t 6]) := by kernel_rfl

/- scoria/scorialaw02.CheckMixes -/
def ac_law02_CheckMixes_0 : AC := .reg [⟨(some 6), .mv (.k (.bool false)), none, none, [], none⟩]
theorem u_law02_CheckMixes_0 {P bb Q f ob} : AWP P bb ac_law02_CheckMixes_0 Q ⟨f, ob⟩ = AWP P bb (.reg [⟨(some 6), .mv (.k (.bool false)), none, none, [], none⟩]) Q ⟨f, ob⟩ := nr rfl
def ac_law02_CheckMixes_1 : AC := .reg [⟨(some 10), .mv (.t 0), none, none, [], none⟩,
    ⟨(some 11), .lens (.t 10), none, none, [], none⟩,
    ⟨(some 12), .mv (.t 1), none, none, [], none⟩,
    ⟨(some 13), .lens (.t 12), none, none, [], none⟩,
    ⟨(some 14), .mv (.t 2), none, none, [], none⟩,
    ⟨(some 15), .lens (.t 14), none, none, [], none⟩,
    ⟨(some 16), .mm false [(.t 11), (.t 13), (.t 15), (.k (.int .i64 5000))], none, none, [], none⟩,
    ⟨(some 7), .mv (.t 16), none, none, [], none⟩]
theorem u_law02_CheckMixes_1 {P bb Q f ob} : AWP P bb ac_law02_CheckMixes_1 Q ⟨f, ob⟩ = AWP P bb (.reg [⟨(some 10), .mv (.t 0), none, none, [], none⟩,
    ⟨(some 11), .lens (.t 10), none, none, [], none⟩,
    ⟨(some 12), .mv (.t 1), none, none, [], none⟩,
    ⟨(some 13), .lens (.t 12), none, none, [], none⟩,
    ⟨(some 14), .mv (.t 2), none, none, [], none⟩,
    ⟨(some 15), .lens (.t 14), none, none, [], none⟩,
    ⟨(some 16), .mm false [(.t 11), (.t 13), (.t 15), (.k (.int .i64 5000))], none, none, [], none⟩,
    ⟨(some 7), .mv (.t 16), none, none, [], none⟩]) Q ⟨f, ob⟩ := nr rfl
def ac_law02_CheckMixes_2 : AC := .reg [⟨(some 8), .nilown 1, none, none, [], none⟩]
theorem u_law02_CheckMixes_2 {P bb Q f ob} : AWP P bb ac_law02_CheckMixes_2 Q ⟨f, ob⟩ = AWP P bb (.reg [⟨(some 8), .nilown 1, none, none, [], none⟩]) Q ⟨f, ob⟩ := nr rfl
def ac_law02_CheckMixes_3 : AC := .reg [⟨(some 9), .mv (.k (.int .i64 0)), none, none, [], none⟩]
theorem u_law02_CheckMixes_3 {P bb Q f ob} : AWP P bb ac_law02_CheckMixes_3 Q ⟨f, ob⟩ = AWP P bb (.reg [⟨(some 9), .mv (.k (.int .i64 0)), none, none, [], none⟩]) Q ⟨f, ob⟩ := nr rfl
def ac_law02_CheckMixes_4 : AC := .reg [⟨(some 17), .mv (.t 9), none, none, [], none⟩,
    ⟨(some 18), .mv (.t 7), none, none, [], none⟩,
    ⟨(some 19), .bin .lss (.t 17) (.t 18), none, none, [], none⟩]
theorem u_law02_CheckMixes_4 {P bb Q f ob} : AWP P bb ac_law02_CheckMixes_4 Q ⟨f, ob⟩ = AWP P bb (.reg [⟨(some 17), .mv (.t 9), none, none, [], none⟩,
    ⟨(some 18), .mv (.t 7), none, none, [], none⟩,
    ⟨(some 19), .bin .lss (.t 17) (.t 18), none, none, [], none⟩]) Q ⟨f, ob⟩ := nr rfl
def ac_law02_CheckMixes_5 : AC := .cond (.t 19) .skip (.exit 0)
theorem u_law02_CheckMixes_5 {P bb Q f ob} : AWP P bb ac_law02_CheckMixes_5 Q ⟨f, ob⟩ = AWP P bb (.cond (.t 19) .skip (.exit 0)) Q ⟨f, ob⟩ := nr rfl
def ac_law02_CheckMixes_6 : AC := .seq ac_law02_CheckMixes_4 ac_law02_CheckMixes_5
theorem u_law02_CheckMixes_6 {P bb Q f ob} : AWP P bb ac_law02_CheckMixes_6 Q ⟨f, ob⟩ = AWP P bb (.seq ac_law02_CheckMixes_4 ac_law02_CheckMixes_5) Q ⟨f, ob⟩ := nr rfl
def ac_law02_CheckMixes_7 : AC := .dreg 1 [⟨(some 22), .mv (.t 8), none, none, [], none⟩,
    ⟨(some 23), .mv (.t 0), none, none, [], none⟩,
    ⟨(some 24), .mv (.t 9), none, none, [], none⟩,
    ⟨(some 25), .idxs (.t 23) (.t 24), none, none, [], none⟩,
    ⟨(some 26), .mv (.t 1), none, none, [], none⟩,
    ⟨(some 27), .mv (.t 9), none, none, [], none⟩,
    ⟨(some 28), .idxs (.t 26) (.t 27), none, none, [], none⟩,
    ⟨(some 29), .bin .xor (.t 25) (.t 28), none, none, [], none⟩,
    ⟨(some 30), .mv (.t 2), none, none, [], none⟩,
    ⟨(some 31), .mv (.t 9), none, none, [], none⟩,
    ⟨(some 32), .idxs (.t 30) (.t 31), none, none, [], none⟩,
    ⟨(some 33), .bin .xor (.t 29) (.t 32), none, none, [], none⟩,
    ⟨(some 34), .blds false [(.int .u8 0)] 1 [(0, (.t 33))], none, none, [0], none⟩,
    ⟨(some 35), .app 1 1 [(.int .u8 0)] (.t 22) (.t 34), none, (some 0), [], none⟩,
    ⟨(some 8), .mv (.t 35), none, none, [], none⟩]
theorem u_law02_CheckMixes_7 {P bb Q f ob} : AWP P bb ac_law02_CheckMixes_7 Q ⟨f, ob⟩ = AWP P bb (.dreg 1 [⟨(some 22), .mv (.t 8), none, none, [], none⟩,
    ⟨(some 23), .mv (.t 0), none, none, [], none⟩,
    ⟨(some 24), .mv (.t 9), none, none, [], none⟩,
    ⟨(some 25), .idxs (.t 23) (.t 24), none, none, [], none⟩,
    ⟨(some 26), .mv (.t 1), none, none, [], none⟩,
    ⟨(some 27), .mv (.t 9), none, none, [], none⟩,
    ⟨(some 28), .idxs (.t 26) (.t 27), none, none, [], none⟩,
    ⟨(some 29), .bin .xor (.t 25) (.t 28), none, none, [], none⟩,
    ⟨(some 30), .mv (.t 2), none, none, [], none⟩,
    ⟨(some 31), .mv (.t 9), none, none, [], none⟩,
    ⟨(some 32), .idxs (.t 30) (.t 31), none, none, [], none⟩,
    ⟨(some 33), .bin .xor (.t 29) (.t 32), none, none, [], none⟩,
    ⟨(some 34), .blds false [(.int .u8 0)] 1 [(0, (.t 33))], none, none, [0], none⟩,
    ⟨(some 35), .app 1 1 [(.int .u8 0)] (.t 22) (.t 34), none, (some 0), [], none⟩,
    ⟨(some 8), .mv (.t 35), none, none, [], none⟩]) Q ⟨f, ob⟩ := nr rfl
def ac_law02_CheckMixes_8 : AC := .block 1 ac_law02_CheckMixes_7
theorem u_law02_CheckMixes_8 {P bb Q f ob} : AWP P bb ac_law02_CheckMixes_8 Q ⟨f, ob⟩ = AWP P bb (.block 1 ac_law02_CheckMixes_7) Q ⟨f, ob⟩ := nr rfl
def ac_law02_CheckMixes_9 : AC := .reg [⟨(some 20), .mv (.t 9), none, none, [], none⟩,
    ⟨(some 21), .bin .add (.t 20) (.k (.int .i64 1)), none, none, [], none⟩,
    ⟨(some 9), .mv (.t 21), none, none, [], none⟩]
theorem u_law02_CheckMixes_9 {P bb Q f ob} : AWP P bb ac_law02_CheckMixes_9 Q ⟨f, ob⟩ = AWP P bb (.reg [⟨(some 20), .mv (.t 9), none, none, [], none⟩,
    ⟨(some 21), .bin .add (.t 20) (.k (.int .i64 1)), none, none, [], none⟩,
    ⟨(some 9), .mv (.t 21), none, none, [], none⟩]) Q ⟨f, ob⟩ := nr rfl
def ac_law02_CheckMixes_10 : AC := .seq ac_law02_CheckMixes_8 ac_law02_CheckMixes_9
theorem u_law02_CheckMixes_10 {P bb Q f ob} : AWP P bb ac_law02_CheckMixes_10 Q ⟨f, ob⟩ = AWP P bb (.seq ac_law02_CheckMixes_8 ac_law02_CheckMixes_9) Q ⟨f, ob⟩ := nr rfl
def ac_law02_CheckMixes_11 : AC := .seq ac_law02_CheckMixes_6 ac_law02_CheckMixes_10
theorem u_law02_CheckMixes_11 {P bb Q f ob} : AWP P bb ac_law02_CheckMixes_11 Q ⟨f, ob⟩ = AWP P bb (.seq ac_law02_CheckMixes_6 ac_law02_CheckMixes_10) Q ⟨f, ob⟩ := nr rfl
def ac_law02_CheckMixes_12 : AC := .loop [0, 1, 2, 7, 8, 9] 1 ac_law02_CheckMixes_11
theorem u_law02_CheckMixes_12 {P bb Q f ob} : AWP P bb ac_law02_CheckMixes_12 Q ⟨f, ob⟩ = AWP P bb (.loop [0, 1, 2, 7, 8, 9] 1 ac_law02_CheckMixes_11) Q ⟨f, ob⟩ := nr rfl
def ac_law02_CheckMixes_13 : AC := .block 0 ac_law02_CheckMixes_12
theorem u_law02_CheckMixes_13 {P bb Q f ob} : AWP P bb ac_law02_CheckMixes_13 Q ⟨f, ob⟩ = AWP P bb (.block 0 ac_law02_CheckMixes_12) Q ⟨f, ob⟩ := nr rfl
def ac_law02_CheckMixes_14 : AC := .seq ac_law02_CheckMixes_3 ac_law02_CheckMixes_13
theorem u_law02_CheckMixes_14 {P bb Q f ob} : AWP P bb ac_law02_CheckMixes_14 Q ⟨f, ob⟩ = AWP P bb (.seq ac_law02_CheckMixes_3 ac_law02_CheckMixes_13) Q ⟨f, ob⟩ := nr rfl
def ac_law02_CheckMixes_15 : AC := .dreg 0 [⟨(some 36), .call false 10 [], none, none, [], none⟩,
    ⟨(some 37), .mv (.t 36), none, none, [], none⟩,
    ⟨(some 38), .mv (.t 8), (some (37, true)), none, [], none⟩,
    ⟨(some 39), .b2s (.t 38), (some (37, true)), none, [], none⟩,
    ⟨(some 40), .call false 11 [(.t 39)], (some (37, true)), none, [], none⟩,
    ⟨(some 41), .mv (.t 0), (some (37, true)), none, [], none⟩,
    ⟨(some 42), .mv (.t 7), (some (37, true)), none, [], none⟩,
    ⟨(some 43), .sstr (.t 41) none (some (.t 42)), (some (37, true)), none, [], none⟩,
    ⟨(some 44), .call false 11 [(.t 43)], (some (37, true)), none, [], none⟩,
    ⟨(some 45), .mv (.t 1), (some (37, true)), none, [], none⟩,
    ⟨(some 46), .mv (.t 7), (some (37, true)), none, [], none⟩,
    ⟨(some 47), .sstr (.t 45) none (some (.t 46)), (some (37, true)), none, [], none⟩,
    ⟨(some 48), .call false 11 [(.t 47)], (some (37, true)), none, [], none⟩,
    ⟨(some 49), .bin .xor (.t 44) (.t 48), (some (37, true)), none, [], none⟩,
    ⟨(some 50), .mv (.t 2), (some (37, true)), none, [], none⟩,
    ⟨(some 51), .mv (.t 7), (some (37, true)), none, [], none⟩,
    ⟨(some 52), .sstr (.t 50) none (some (.t 51)), (some (37, true)), none, [], none⟩,
    ⟨(some 53), .call false 11 [(.t 52)], (some (37, true)), none, [], none⟩,
    ⟨(some 54), .bin .xor (.t 49) (.t 53), (some (37, true)), none, [], none⟩,
    ⟨(some 55), .bin .eql (.t 40) (.t 54), (some (37, true)), none, [], none⟩,
    ⟨(some 56), .pick (.t 37) (.t 55) (.k (.bool false)), none, none, [], none⟩,
    ⟨(some 6), .mv (.t 56), none, none, [], none⟩]
theorem u_law02_CheckMixes_15 {P bb Q f ob} : AWP P bb ac_law02_CheckMixes_15 Q ⟨f, ob⟩ = AWP P bb (.dreg 0 [⟨(some 36), .call false 10 [], none, none, [], none⟩,
    ⟨(some 37), .mv (.t 36), none, none, [], none⟩,
    ⟨(some 38), .mv (.t 8), (some (37, true)), none, [], none⟩,
    ⟨(some 39), .b2s (.t 38), (some (37, true)), none, [], none⟩,
    ⟨(some 40), .call false 11 [(.t 39)], (some (37, true)), none, [], none⟩,
    ⟨(some 41), .mv (.t 0), (some (37, true)), none, [], none⟩,
    ⟨(some 42), .mv (.t 7), (some (37, true)), none, [], none⟩,
    ⟨(some 43), .sstr (.t 41) none (some (.t 42)), (some (37, true)), none, [], none⟩,
    ⟨(some 44), .call false 11 [(.t 43)], (some (37, true)), none, [], none⟩,
    ⟨(some 45), .mv (.t 1), (some (37, true)), none, [], none⟩,
    ⟨(some 46), .mv (.t 7), (some (37, true)), none, [], none⟩,
    ⟨(some 47), .sstr (.t 45) none (some (.t 46)), (some (37, true)), none, [], none⟩,
    ⟨(some 48), .call false 11 [(.t 47)], (some (37, true)), none, [], none⟩,
    ⟨(some 49), .bin .xor (.t 44) (.t 48), (some (37, true)), none, [], none⟩,
    ⟨(some 50), .mv (.t 2), (some (37, true)), none, [], none⟩,
    ⟨(some 51), .mv (.t 7), (some (37, true)), none, [], none⟩,
    ⟨(some 52), .sstr (.t 50) none (some (.t 51)), (some (37, true)), none, [], none⟩,
    ⟨(some 53), .call false 11 [(.t 52)], (some (37, true)), none, [], none⟩,
    ⟨(some 54), .bin .xor (.t 49) (.t 53), (some (37, true)), none, [], none⟩,
    ⟨(some 55), .bin .eql (.t 40) (.t 54), (some (37, true)), none, [], none⟩,
    ⟨(some 56), .pick (.t 37) (.t 55) (.k (.bool false)), none, none, [], none⟩,
    ⟨(some 6), .mv (.t 56), none, none, [], none⟩]) Q ⟨f, ob⟩ := nr rfl
def ac_law02_CheckMixes_16 : AC := .seq ac_law02_CheckMixes_15 .ret
theorem u_law02_CheckMixes_16 {P bb Q f ob} : AWP P bb ac_law02_CheckMixes_16 Q ⟨f, ob⟩ = AWP P bb (.seq ac_law02_CheckMixes_15 .ret) Q ⟨f, ob⟩ := nr rfl
def ac_law02_CheckMixes_17 : AC := .seq ac_law02_CheckMixes_14 ac_law02_CheckMixes_16
theorem u_law02_CheckMixes_17 {P bb Q f ob} : AWP P bb ac_law02_CheckMixes_17 Q ⟨f, ob⟩ = AWP P bb (.seq ac_law02_CheckMixes_14 ac_law02_CheckMixes_16) Q ⟨f, ob⟩ := nr rfl
def ac_law02_CheckMixes_18 : AC := .seq ac_law02_CheckMixes_2 ac_law02_CheckMixes_17
theorem u_law02_CheckMixes_18 {P bb Q f ob} : AWP P bb ac_law02_CheckMixes_18 Q ⟨f, ob⟩ = AWP P bb (.seq ac_law02_CheckMixes_2 ac_law02_CheckMixes_17) Q ⟨f, ob⟩ := nr rfl
def ac_law02_CheckMixes_19 : AC := .seq ac_law02_CheckMixes_1 ac_law02_CheckMixes_18
theorem u_law02_CheckMixes_19 {P bb Q f ob} : AWP P bb ac_law02_CheckMixes_19 Q ⟨f, ob⟩ = AWP P bb (.seq ac_law02_CheckMixes_1 ac_law02_CheckMixes_18) Q ⟨f, ob⟩ := nr rfl
def ac_law02_CheckMixes_20 : AC := .seq ac_law02_CheckMixes_0 ac_law02_CheckMixes_19
theorem u_law02_CheckMixes_20 {P bb Q f ob} : AWP P bb ac_law02_CheckMixes_20 Q ⟨f, ob⟩ = AWP P bb (.seq ac_law02_CheckMixes_0 ac_law02_CheckMixes_19) Q ⟨f, ob⟩ := nr rfl
def ac_law02_CheckMixes : AC := ac_law02_CheckMixes_20
theorem comp_law02_CheckMixes : compF Try.prog [8] (drawR Try.prog [8] Try.f9.ntmps) [([0, 1, 2, 7, 8, 9], 1)] 3 Try.f9 = some (ac_law02_CheckMixes, [.t 6]) := by kernel_rfl

/- scoria/scorialaw02.awake -/
def ac_law02_awake_0 : AC := .reg [⟨(some 0), .mv (.k (.bool false)), none, none, [], none⟩]
theorem u_law02_awake_0 {P bb Q f ob} : AWP P bb ac_law02_awake_0 Q ⟨f, ob⟩ = AWP P bb (.reg [⟨(some 0), .mv (.k (.bool false)), none, none, [], none⟩]) Q ⟨f, ob⟩ := nr rfl
def ac_law02_awake_1 : AC := .reg [⟨(some 4), .call false 15 [(.k (.str [97]))], none, none, [], none⟩,
    ⟨(some 5), .call false 17 [(.t 4)], none, none, [], none⟩,
    ⟨(some 3), .mv (.t 5), none, none, [], none⟩,
    ⟨(some 6), .ext 0 (.t 3), none, none, [], none⟩,
    ⟨(some 7), .ext 1 (.t 3), none, none, [], none⟩,
    ⟨(some 1), .mv (.t 6), none, none, [], none⟩,
    ⟨(some 2), .mv (.t 7), none, none, [], none⟩]
theorem u_law02_awake_1 {P bb Q f ob} : AWP P bb ac_law02_awake_1 Q ⟨f, ob⟩ = AWP P bb (.reg [⟨(some 4), .call false 15 [(.k (.str [97]))], none, none, [], none⟩,
    ⟨(some 5), .call false 17 [(.t 4)], none, none, [], none⟩,
    ⟨(some 3), .mv (.t 5), none, none, [], none⟩,
    ⟨(some 6), .ext 0 (.t 3), none, none, [], none⟩,
    ⟨(some 7), .ext 1 (.t 3), none, none, [], none⟩,
    ⟨(some 1), .mv (.t 6), none, none, [], none⟩,
    ⟨(some 2), .mv (.t 7), none, none, [], none⟩]) Q ⟨f, ob⟩ := nr rfl
def ac_law02_awake_2 : AC := .reg [⟨(some 8), .call false 11 [(.k (.str [49, 50, 51, 52, 53, 54, 55, 56, 57]))], none, none, [], none⟩,
    ⟨(some 9), .bin .eql (.t 8) (.k (.int .u32 4236843288)), none, none, [], none⟩,
    ⟨(some 10), .mv (.t 9), none, none, [], none⟩,
    ⟨(some 11), .call false 15 [(.k (.str []))], (some (10, true)), none, [], none⟩,
    ⟨(some 12), .bin .eql (.t 11) (.k (.str [0, 0, 0, 0])), (some (10, true)), none, [], none⟩,
    ⟨(some 13), .pick (.t 10) (.t 12) (.k (.bool false)), none, none, [], none⟩,
    ⟨(some 14), .mv (.t 13), none, none, [], none⟩,
    ⟨(some 15), .mv (.t 1), (some (14, true)), none, [], none⟩,
    ⟨(some 16), .bin .eql (.t 15) (.k (.str [97])), (some (14, true)), none, [], none⟩,
    ⟨(some 17), .pick (.t 14) (.t 16) (.k (.bool false)), none, none, [], none⟩,
    ⟨(some 18), .mv (.t 17), none, none, [], none⟩,
    ⟨(some 19), .mv (.t 2), (some (18, true)), none, [], none⟩,
    ⟨(some 20), .bin .eql (.t 19) (.k (.int .i64 0)), (some (18, true)), none, [], none⟩,
    ⟨(some 21), .pick (.t 18) (.t 20) (.k (.bool false)), none, none, [], none⟩,
    ⟨(some 0), .mv (.t 21), none, none, [], none⟩]
theorem u_law02_awake_2 {P bb Q f ob} : AWP P bb ac_law02_awake_2 Q ⟨f, ob⟩ = AWP P bb (.reg [⟨(some 8), .call false 11 [(.k (.str [49, 50, 51, 52, 53, 54, 55, 56, 57]))], none, none, [], none⟩,
    ⟨(some 9), .bin .eql (.t 8) (.k (.int .u32 4236843288)), none, none, [], none⟩,
    ⟨(some 10), .mv (.t 9), none, none, [], none⟩,
    ⟨(some 11), .call false 15 [(.k (.str []))], (some (10, true)), none, [], none⟩,
    ⟨(some 12), .bin .eql (.t 11) (.k (.str [0, 0, 0, 0])), (some (10, true)), none, [], none⟩,
    ⟨(some 13), .pick (.t 10) (.t 12) (.k (.bool false)), none, none, [], none⟩,
    ⟨(some 14), .mv (.t 13), none, none, [], none⟩,
    ⟨(some 15), .mv (.t 1), (some (14, true)), none, [], none⟩,
    ⟨(some 16), .bin .eql (.t 15) (.k (.str [97])), (some (14, true)), none, [], none⟩,
    ⟨(some 17), .pick (.t 14) (.t 16) (.k (.bool false)), none, none, [], none⟩,
    ⟨(some 18), .mv (.t 17), none, none, [], none⟩,
    ⟨(some 19), .mv (.t 2), (some (18, true)), none, [], none⟩,
    ⟨(some 20), .bin .eql (.t 19) (.k (.int .i64 0)), (some (18, true)), none, [], none⟩,
    ⟨(some 21), .pick (.t 18) (.t 20) (.k (.bool false)), none, none, [], none⟩,
    ⟨(some 0), .mv (.t 21), none, none, [], none⟩]) Q ⟨f, ob⟩ := nr rfl
def ac_law02_awake_3 : AC := .seq ac_law02_awake_2 .ret
theorem u_law02_awake_3 {P bb Q f ob} : AWP P bb ac_law02_awake_3 Q ⟨f, ob⟩ = AWP P bb (.seq ac_law02_awake_2 .ret) Q ⟨f, ob⟩ := nr rfl
def ac_law02_awake_4 : AC := .seq ac_law02_awake_1 ac_law02_awake_3
theorem u_law02_awake_4 {P bb Q f ob} : AWP P bb ac_law02_awake_4 Q ⟨f, ob⟩ = AWP P bb (.seq ac_law02_awake_1 ac_law02_awake_3) Q ⟨f, ob⟩ := nr rfl
def ac_law02_awake_5 : AC := .seq ac_law02_awake_0 ac_law02_awake_4
theorem u_law02_awake_5 {P bb Q f ob} : AWP P bb ac_law02_awake_5 Q ⟨f, ob⟩ = AWP P bb (.seq ac_law02_awake_0 ac_law02_awake_4) Q ⟨f, ob⟩ := nr rfl
def ac_law02_awake : AC := ac_law02_awake_5
theorem comp_law02_awake : compF Try.prog [] (drawR Try.prog [] Try.f10.ntmps) [] 0 Try.f10 = some (ac_law02_awake, [.t 0]) := by kernel_rfl

/- scoria/check.Sum -/
def ac_check_Sum_0 : AC := .reg [⟨(some 2), .mv (.k (.int .u32 0)), none, none, [], none⟩]
theorem u_check_Sum_0 {P bb Q f ob} : AWP P bb ac_check_Sum_0 Q ⟨f, ob⟩ = AWP P bb (.reg [⟨(some 2), .mv (.k (.int .u32 0)), none, none, [], none⟩]) Q ⟨f, ob⟩ := nr rfl
def ac_check_Sum_1 : AC := .reg [⟨(some 3), .mv (.t 0), none, none, [], none⟩,
    ⟨(some 4), .call false 13 [(.k (.int .u32 0)), (.t 3)], none, none, [], none⟩,
    ⟨(some 2), .mv (.t 4), none, none, [], none⟩]
theorem u_check_Sum_1 {P bb Q f ob} : AWP P bb ac_check_Sum_1 Q ⟨f, ob⟩ = AWP P bb (.reg [⟨(some 3), .mv (.t 0), none, none, [], none⟩,
    ⟨(some 4), .call false 13 [(.k (.int .u32 0)), (.t 3)], none, none, [], none⟩,
    ⟨(some 2), .mv (.t 4), none, none, [], none⟩]) Q ⟨f, ob⟩ := nr rfl
def ac_check_Sum_2 : AC := .seq ac_check_Sum_1 .ret
theorem u_check_Sum_2 {P bb Q f ob} : AWP P bb ac_check_Sum_2 Q ⟨f, ob⟩ = AWP P bb (.seq ac_check_Sum_1 .ret) Q ⟨f, ob⟩ := nr rfl
def ac_check_Sum_3 : AC := .seq ac_check_Sum_0 ac_check_Sum_2
theorem u_check_Sum_3 {P bb Q f ob} : AWP P bb ac_check_Sum_3 Q ⟨f, ob⟩ = AWP P bb (.seq ac_check_Sum_0 ac_check_Sum_2) Q ⟨f, ob⟩ := nr rfl
def ac_check_Sum : AC := ac_check_Sum_3
theorem comp_check_Sum : compF Try.prog [] (drawR Try.prog [] Try.f11.ntmps) [] 1 Try.f11 = some (ac_check_Sum, [.t 2]) := by kernel_rfl

/- scoria/scoriaref02.Sum -/
def ac_ref02_Sum_0 : AC := .reg [⟨(some 2), .mv (.k (.int .u32 0)), none, none, [], none⟩]
theorem u_ref02_Sum_0 {P bb Q f ob} : AWP P bb ac_ref02_Sum_0 Q ⟨f, ob⟩ = AWP P bb (.reg [⟨(some 2), .mv (.k (.int .u32 0)), none, none, [], none⟩]) Q ⟨f, ob⟩ := nr rfl
def ac_ref02_Sum_1 : AC := .reg [⟨(some 3), .mv (.t 0), none, none, [], none⟩,
    ⟨(some 4), .call false 19 [(.k (.int .u32 4294967295)), (.t 3)], none, none, [], none⟩,
    ⟨(some 5), .bin .xor (.t 4) (.k (.int .u32 4294967295)), none, none, [], none⟩,
    ⟨(some 2), .mv (.t 5), none, none, [], none⟩]
theorem u_ref02_Sum_1 {P bb Q f ob} : AWP P bb ac_ref02_Sum_1 Q ⟨f, ob⟩ = AWP P bb (.reg [⟨(some 3), .mv (.t 0), none, none, [], none⟩,
    ⟨(some 4), .call false 19 [(.k (.int .u32 4294967295)), (.t 3)], none, none, [], none⟩,
    ⟨(some 5), .bin .xor (.t 4) (.k (.int .u32 4294967295)), none, none, [], none⟩,
    ⟨(some 2), .mv (.t 5), none, none, [], none⟩]) Q ⟨f, ob⟩ := nr rfl
def ac_ref02_Sum_2 : AC := .seq ac_ref02_Sum_1 .ret
theorem u_ref02_Sum_2 {P bb Q f ob} : AWP P bb ac_ref02_Sum_2 Q ⟨f, ob⟩ = AWP P bb (.seq ac_ref02_Sum_1 .ret) Q ⟨f, ob⟩ := nr rfl
def ac_ref02_Sum_3 : AC := .seq ac_ref02_Sum_0 ac_ref02_Sum_2
theorem u_ref02_Sum_3 {P bb Q f ob} : AWP P bb ac_ref02_Sum_3 Q ⟨f, ob⟩ = AWP P bb (.seq ac_ref02_Sum_0 ac_ref02_Sum_2) Q ⟨f, ob⟩ := nr rfl
def ac_ref02_Sum : AC := ac_ref02_Sum_3
theorem comp_ref02_Sum : compF Try.prog [] (drawR Try.prog [] Try.f12.ntmps) [] 1 Try.f12 = some (ac_ref02_Sum, [.t 2]) := by kernel_rfl

/- scoria/check.More -/
def ac_check_More_0 : AC := .reg [⟨(some 4), .mv (.k (.int .u32 0)), none, none, [], none⟩]
theorem u_check_More_0 {P bb Q f ob} : AWP P bb ac_check_More_0 Q ⟨f, ob⟩ = AWP P bb (.reg [⟨(some 4), .mv (.k (.int .u32 0)), none, none, [], none⟩]) Q ⟨f, ob⟩ := nr rfl
def ac_check_More_1 : AC := .reg [⟨(some 7), .mv (.t 0), none, none, [], none⟩,
    ⟨(some 8), .un .xor (.t 7), none, none, [], none⟩,
    ⟨(some 5), .mv (.t 8), none, none, [], none⟩]
theorem u_check_More_1 {P bb Q f ob} : AWP P bb ac_check_More_1 Q ⟨f, ob⟩ = AWP P bb (.reg [⟨(some 7), .mv (.t 0), none, none, [], none⟩,
    ⟨(some 8), .un .xor (.t 7), none, none, [], none⟩,
    ⟨(some 5), .mv (.t 8), none, none, [], none⟩]) Q ⟨f, ob⟩ := nr rfl
def ac_check_More_2 : AC := .reg [⟨(some 9), .mv (.t 1), none, none, [], none⟩,
    ⟨(some 10), .lens (.t 9), none, none, [], none⟩,
    ⟨(some 11), .mv (.k (.int .i64 0)), none, none, [], none⟩]
theorem u_check_More_2 {P bb Q f ob} : AWP P bb ac_check_More_2 Q ⟨f, ob⟩ = AWP P bb (.reg [⟨(some 9), .mv (.t 1), none, none, [], none⟩,
    ⟨(some 10), .lens (.t 9), none, none, [], none⟩,
    ⟨(some 11), .mv (.k (.int .i64 0)), none, none, [], none⟩]) Q ⟨f, ob⟩ := nr rfl
def ac_check_More_3 : AC := .reg [⟨(some 12), .bin .lss (.t 11) (.t 10), none, none, [], none⟩]
theorem u_check_More_3 {P bb Q f ob} : AWP P bb ac_check_More_3 Q ⟨f, ob⟩ = AWP P bb (.reg [⟨(some 12), .bin .lss (.t 11) (.t 10), none, none, [], none⟩]) Q ⟨f, ob⟩ := nr rfl
def ac_check_More_4 : AC := .cond (.t 12) .skip (.exit 0)
theorem u_check_More_4 {P bb Q f ob} : AWP P bb ac_check_More_4 Q ⟨f, ob⟩ = AWP P bb (.cond (.t 12) .skip (.exit 0)) Q ⟨f, ob⟩ := nr rfl
def ac_check_More_5 : AC := .reg [⟨(some 13), .mv (.t 11), none, none, [], none⟩,
    ⟨(some 6), .mv (.t 13), none, none, [], none⟩]
theorem u_check_More_5 {P bb Q f ob} : AWP P bb ac_check_More_5 Q ⟨f, ob⟩ = AWP P bb (.reg [⟨(some 13), .mv (.t 11), none, none, [], none⟩,
    ⟨(some 6), .mv (.t 13), none, none, [], none⟩]) Q ⟨f, ob⟩ := nr rfl
def ac_check_More_6 : AC := .reg [⟨(some 14), .mv (.t 5), none, none, [], none⟩,
    ⟨(some 15), .mv (.t 1), none, none, [], none⟩,
    ⟨(some 16), .mv (.t 6), none, none, [], none⟩,
    ⟨(some 17), .idxs (.t 15) (.t 16), none, none, [], none⟩,
    ⟨(some 18), .call false 20 [(.t 14), (.t 17)], none, none, [], none⟩,
    ⟨(some 5), .mv (.t 18), none, none, [], none⟩]
theorem u_check_More_6 {P bb Q f ob} : AWP P bb ac_check_More_6 Q ⟨f, ob⟩ = AWP P bb (.reg [⟨(some 14), .mv (.t 5), none, none, [], none⟩,
    ⟨(some 15), .mv (.t 1), none, none, [], none⟩,
    ⟨(some 16), .mv (.t 6), none, none, [], none⟩,
    ⟨(some 17), .idxs (.t 15) (.t 16), none, none, [], none⟩,
    ⟨(some 18), .call false 20 [(.t 14), (.t 17)], none, none, [], none⟩,
    ⟨(some 5), .mv (.t 18), none, none, [], none⟩]) Q ⟨f, ob⟩ := nr rfl
def ac_check_More_7 : AC := .seq ac_check_More_5 ac_check_More_6
theorem u_check_More_7 {P bb Q f ob} : AWP P bb ac_check_More_7 Q ⟨f, ob⟩ = AWP P bb (.seq ac_check_More_5 ac_check_More_6) Q ⟨f, ob⟩ := nr rfl
def ac_check_More_8 : AC := .block 1 ac_check_More_7
theorem u_check_More_8 {P bb Q f ob} : AWP P bb ac_check_More_8 Q ⟨f, ob⟩ = AWP P bb (.block 1 ac_check_More_7) Q ⟨f, ob⟩ := nr rfl
def ac_check_More_9 : AC := .reg [⟨(some 19), .bin .add (.t 11) (.k (.int .i64 1)), none, none, [], none⟩,
    ⟨(some 11), .mv (.t 19), none, none, [], none⟩]
theorem u_check_More_9 {P bb Q f ob} : AWP P bb ac_check_More_9 Q ⟨f, ob⟩ = AWP P bb (.reg [⟨(some 19), .bin .add (.t 11) (.k (.int .i64 1)), none, none, [], none⟩,
    ⟨(some 11), .mv (.t 19), none, none, [], none⟩]) Q ⟨f, ob⟩ := nr rfl
def ac_check_More_10 : AC := .seq ac_check_More_8 ac_check_More_9
theorem u_check_More_10 {P bb Q f ob} : AWP P bb ac_check_More_10 Q ⟨f, ob⟩ = AWP P bb (.seq ac_check_More_8 ac_check_More_9) Q ⟨f, ob⟩ := nr rfl
def ac_check_More_11 : AC := .seq ac_check_More_4 ac_check_More_10
theorem u_check_More_11 {P bb Q f ob} : AWP P bb ac_check_More_11 Q ⟨f, ob⟩ = AWP P bb (.seq ac_check_More_4 ac_check_More_10) Q ⟨f, ob⟩ := nr rfl
def ac_check_More_12 : AC := .seq ac_check_More_3 ac_check_More_11
theorem u_check_More_12 {P bb Q f ob} : AWP P bb ac_check_More_12 Q ⟨f, ob⟩ = AWP P bb (.seq ac_check_More_3 ac_check_More_11) Q ⟨f, ob⟩ := nr rfl
def ac_check_More_13 : AC := .loop [1, 5, 10, 11] 0 ac_check_More_12
theorem u_check_More_13 {P bb Q f ob} : AWP P bb ac_check_More_13 Q ⟨f, ob⟩ = AWP P bb (.loop [1, 5, 10, 11] 0 ac_check_More_12) Q ⟨f, ob⟩ := nr rfl
def ac_check_More_14 : AC := .block 0 ac_check_More_13
theorem u_check_More_14 {P bb Q f ob} : AWP P bb ac_check_More_14 Q ⟨f, ob⟩ = AWP P bb (.block 0 ac_check_More_13) Q ⟨f, ob⟩ := nr rfl
def ac_check_More_15 : AC := .seq ac_check_More_2 ac_check_More_14
theorem u_check_More_15 {P bb Q f ob} : AWP P bb ac_check_More_15 Q ⟨f, ob⟩ = AWP P bb (.seq ac_check_More_2 ac_check_More_14) Q ⟨f, ob⟩ := nr rfl
def ac_check_More_16 : AC := .reg [⟨(some 20), .mv (.t 5), none, none, [], none⟩,
    ⟨(some 21), .un .xor (.t 20), none, none, [], none⟩,
    ⟨(some 4), .mv (.t 21), none, none, [], none⟩]
theorem u_check_More_16 {P bb Q f ob} : AWP P bb ac_check_More_16 Q ⟨f, ob⟩ = AWP P bb (.reg [⟨(some 20), .mv (.t 5), none, none, [], none⟩,
    ⟨(some 21), .un .xor (.t 20), none, none, [], none⟩,
    ⟨(some 4), .mv (.t 21), none, none, [], none⟩]) Q ⟨f, ob⟩ := nr rfl
def ac_check_More_17 : AC := .seq ac_check_More_16 .ret
theorem u_check_More_17 {P bb Q f ob} : AWP P bb ac_check_More_17 Q ⟨f, ob⟩ = AWP P bb (.seq ac_check_More_16 .ret) Q ⟨f, ob⟩ := nr rfl
def ac_check_More_18 : AC := .seq ac_check_More_15 ac_check_More_17
theorem u_check_More_18 {P bb Q f ob} : AWP P bb ac_check_More_18 Q ⟨f, ob⟩ = AWP P bb (.seq ac_check_More_15 ac_check_More_17) Q ⟨f, ob⟩ := nr rfl
def ac_check_More_19 : AC := .seq ac_check_More_1 ac_check_More_18
theorem u_check_More_19 {P bb Q f ob} : AWP P bb ac_check_More_19 Q ⟨f, ob⟩ = AWP P bb (.seq ac_check_More_1 ac_check_More_18) Q ⟨f, ob⟩ := nr rfl
def ac_check_More_20 : AC := .seq ac_check_More_0 ac_check_More_19
theorem u_check_More_20 {P bb Q f ob} : AWP P bb ac_check_More_20 Q ⟨f, ob⟩ = AWP P bb (.seq ac_check_More_0 ac_check_More_19) Q ⟨f, ob⟩ := nr rfl
def ac_check_More : AC := ac_check_More_20
theorem comp_check_More : compF Try.prog [] (drawR Try.prog [] Try.f13.ntmps) [([1, 5, 10, 11], 0)] 2 Try.f13 = some (ac_check_More, [.t 4]) := by kernel_rfl

/- scoria/scoriaref02.More -/
def ac_ref02_More_0 : AC := .reg [⟨(some 4), .mv (.k (.int .u32 0)), none, none, [], none⟩]
theorem u_ref02_More_0 {P bb Q f ob} : AWP P bb ac_ref02_More_0 Q ⟨f, ob⟩ = AWP P bb (.reg [⟨(some 4), .mv (.k (.int .u32 0)), none, none, [], none⟩]) Q ⟨f, ob⟩ := nr rfl
def ac_ref02_More_1 : AC := .reg [⟨(some 5), .mv (.t 0), none, none, [], none⟩,
    ⟨(some 6), .bin .xor (.t 5) (.k (.int .u32 4294967295)), none, none, [], none⟩,
    ⟨(some 7), .mv (.t 1), none, none, [], none⟩,
    ⟨(some 8), .call false 19 [(.t 6), (.t 7)], none, none, [], none⟩,
    ⟨(some 9), .bin .xor (.t 8) (.k (.int .u32 4294967295)), none, none, [], none⟩,
    ⟨(some 4), .mv (.t 9), none, none, [], none⟩]
theorem u_ref02_More_1 {P bb Q f ob} : AWP P bb ac_ref02_More_1 Q ⟨f, ob⟩ = AWP P bb (.reg [⟨(some 5), .mv (.t 0), none, none, [], none⟩,
    ⟨(some 6), .bin .xor (.t 5) (.k (.int .u32 4294967295)), none, none, [], none⟩,
    ⟨(some 7), .mv (.t 1), none, none, [], none⟩,
    ⟨(some 8), .call false 19 [(.t 6), (.t 7)], none, none, [], none⟩,
    ⟨(some 9), .bin .xor (.t 8) (.k (.int .u32 4294967295)), none, none, [], none⟩,
    ⟨(some 4), .mv (.t 9), none, none, [], none⟩]) Q ⟨f, ob⟩ := nr rfl
def ac_ref02_More_2 : AC := .seq ac_ref02_More_1 .ret
theorem u_ref02_More_2 {P bb Q f ob} : AWP P bb ac_ref02_More_2 Q ⟨f, ob⟩ = AWP P bb (.seq ac_ref02_More_1 .ret) Q ⟨f, ob⟩ := nr rfl
def ac_ref02_More_3 : AC := .seq ac_ref02_More_0 ac_ref02_More_2
theorem u_ref02_More_3 {P bb Q f ob} : AWP P bb ac_ref02_More_3 Q ⟨f, ob⟩ = AWP P bb (.seq ac_ref02_More_0 ac_ref02_More_2) Q ⟨f, ob⟩ := nr rfl
def ac_ref02_More : AC := ac_ref02_More_3
theorem comp_ref02_More : compF Try.prog [] (drawR Try.prog [] Try.f14.ntmps) [] 2 Try.f14 = some (ac_ref02_More, [.t 4]) := by kernel_rfl

/- scoria/check.Seal -/
def ac_check_Seal_0 : AC := .reg [⟨(some 2), .mv (.k (.str [])), none, none, [], none⟩]
theorem u_check_Seal_0 {P bb Q f ob} : AWP P bb ac_check_Seal_0 Q ⟨f, ob⟩ = AWP P bb (.reg [⟨(some 2), .mv (.k (.str [])), none, none, [], none⟩]) Q ⟨f, ob⟩ := nr rfl
def ac_check_Seal_1 : AC := .reg [⟨(some 4), .mv (.t 0), none, none, [], none⟩,
    ⟨(some 5), .call false 11 [(.t 4)], none, none, [], none⟩,
    ⟨(some 3), .mv (.t 5), none, none, [], none⟩]
theorem u_check_Seal_1 {P bb Q f ob} : AWP P bb ac_check_Seal_1 Q ⟨f, ob⟩ = AWP P bb (.reg [⟨(some 4), .mv (.t 0), none, none, [], none⟩,
    ⟨(some 5), .call false 11 [(.t 4)], none, none, [], none⟩,
    ⟨(some 3), .mv (.t 5), none, none, [], none⟩]) Q ⟨f, ob⟩ := nr rfl
def ac_check_Seal_2 : AC := .reg [⟨(some 6), .mv (.t 0), none, none, [], none⟩,
    ⟨(some 7), .mv (.t 3), none, none, [], none⟩,
    ⟨(some 8), .bin .shr (.t 7) (.k (.int .u64 24)), none, none, [], none⟩,
    ⟨(some 9), .conv .u8 (.t 8), none, none, [], none⟩,
    ⟨(some 10), .mv (.t 3), none, none, [], none⟩,
    ⟨(some 11), .bin .shr (.t 10) (.k (.int .u64 16)), none, none, [], none⟩,
    ⟨(some 12), .conv .u8 (.t 11), none, none, [], none⟩,
    ⟨(some 13), .mv (.t 3), none, none, [], none⟩,
    ⟨(some 14), .bin .shr (.t 13) (.k (.int .u64 8)), none, none, [], none⟩,
    ⟨(some 15), .conv .u8 (.t 14), none, none, [], none⟩,
    ⟨(some 16), .mv (.t 3), none, none, [], none⟩,
    ⟨(some 17), .conv .u8 (.t 16), none, none, [], none⟩,
    ⟨(some 18), .blds false [(.int .u8 0)] 4 [(0, (.t 9)), (1, (.t 12)), (2, (.t 15)), (3, (.t 17))], none, none, [], none⟩,
    ⟨(some 19), .b2s (.t 18), none, none, [], none⟩,
    ⟨(some 20), .bin .add (.t 6) (.t 19), none, none, [], none⟩,
    ⟨(some 2), .mv (.t 20), none, none, [], none⟩]
theorem u_check_Seal_2 {P bb Q f ob} : AWP P bb ac_check_Seal_2 Q ⟨f, ob⟩ = AWP P bb (.reg [⟨(some 6), .mv (.t 0), none, none, [], none⟩,
    ⟨(some 7), .mv (.t 3), none, none, [], none⟩,
    ⟨(some 8), .bin .shr (.t 7) (.k (.int .u64 24)), none, none, [], none⟩,
    ⟨(some 9), .conv .u8 (.t 8), none, none, [], none⟩,
    ⟨(some 10), .mv (.t 3), none, none, [], none⟩,
    ⟨(some 11), .bin .shr (.t 10) (.k (.int .u64 16)), none, none, [], none⟩,
    ⟨(some 12), .conv .u8 (.t 11), none, none, [], none⟩,
    ⟨(some 13), .mv (.t 3), none, none, [], none⟩,
    ⟨(some 14), .bin .shr (.t 13) (.k (.int .u64 8)), none, none, [], none⟩,
    ⟨(some 15), .conv .u8 (.t 14), none, none, [], none⟩,
    ⟨(some 16), .mv (.t 3), none, none, [], none⟩,
    ⟨(some 17), .conv .u8 (.t 16), none, none, [], none⟩,
    ⟨(some 18), .blds false [(.int .u8 0)] 4 [(0, (.t 9)), (1, (.t 12)), (2, (.t 15)), (3, (.t 17))], none, none, [], none⟩,
    ⟨(some 19), .b2s (.t 18), none, none, [], none⟩,
    ⟨(some 20), .bin .add (.t 6) (.t 19), none, none, [], none⟩,
    ⟨(some 2), .mv (.t 20), none, none, [], none⟩]) Q ⟨f, ob⟩ := nr rfl
def ac_check_Seal_3 : AC := .seq ac_check_Seal_2 .ret
theorem u_check_Seal_3 {P bb Q f ob} : AWP P bb ac_check_Seal_3 Q ⟨f, ob⟩ = AWP P bb (.seq ac_check_Seal_2 .ret) Q ⟨f, ob⟩ := nr rfl
def ac_check_Seal_4 : AC := .seq ac_check_Seal_1 ac_check_Seal_3
theorem u_check_Seal_4 {P bb Q f ob} : AWP P bb ac_check_Seal_4 Q ⟨f, ob⟩ = AWP P bb (.seq ac_check_Seal_1 ac_check_Seal_3) Q ⟨f, ob⟩ := nr rfl
def ac_check_Seal_5 : AC := .seq ac_check_Seal_0 ac_check_Seal_4
theorem u_check_Seal_5 {P bb Q f ob} : AWP P bb ac_check_Seal_5 Q ⟨f, ob⟩ = AWP P bb (.seq ac_check_Seal_0 ac_check_Seal_4) Q ⟨f, ob⟩ := nr rfl
def ac_check_Seal : AC := ac_check_Seal_5
theorem comp_check_Seal : compF Try.prog [] (drawR Try.prog [] Try.f15.ntmps) [] 1 Try.f15 = some (ac_check_Seal, [.t 2]) := by kernel_rfl

/- scoria/scoriaref02.Seal -/
def ac_ref02_Seal_0 : AC := .reg [⟨(some 2), .mv (.k (.str [])), none, none, [], none⟩]
theorem u_ref02_Seal_0 {P bb Q f ob} : AWP P bb ac_ref02_Seal_0 Q ⟨f, ob⟩ = AWP P bb (.reg [⟨(some 2), .mv (.k (.str [])), none, none, [], none⟩]) Q ⟨f, ob⟩ := nr rfl
def ac_ref02_Seal_1 : AC := .reg [⟨(some 4), .mv (.t 0), none, none, [], none⟩,
    ⟨(some 5), .call false 12 [(.t 4)], none, none, [], none⟩,
    ⟨(some 3), .mv (.t 5), none, none, [], none⟩]
theorem u_ref02_Seal_1 {P bb Q f ob} : AWP P bb ac_ref02_Seal_1 Q ⟨f, ob⟩ = AWP P bb (.reg [⟨(some 4), .mv (.t 0), none, none, [], none⟩,
    ⟨(some 5), .call false 12 [(.t 4)], none, none, [], none⟩,
    ⟨(some 3), .mv (.t 5), none, none, [], none⟩]) Q ⟨f, ob⟩ := nr rfl
def ac_ref02_Seal_2 : AC := .reg [⟨(some 6), .mv (.t 0), none, none, [], none⟩,
    ⟨(some 7), .mv (.t 3), none, none, [], none⟩,
    ⟨(some 8), .bin .quo (.t 7) (.k (.int .u32 16777216)), none, none, [], none⟩,
    ⟨(some 9), .conv .u8 (.t 8), none, none, [], none⟩,
    ⟨(some 10), .mv (.t 3), none, none, [], none⟩,
    ⟨(some 11), .bin .quo (.t 10) (.k (.int .u32 65536)), none, none, [], none⟩,
    ⟨(some 12), .bin .rem (.t 11) (.k (.int .u32 256)), none, none, [], none⟩,
    ⟨(some 13), .conv .u8 (.t 12), none, none, [], none⟩,
    ⟨(some 14), .mv (.t 3), none, none, [], none⟩,
    ⟨(some 15), .bin .quo (.t 14) (.k (.int .u32 256)), none, none, [], none⟩,
    ⟨(some 16), .bin .rem (.t 15) (.k (.int .u32 256)), none, none, [], none⟩,
    ⟨(some 17), .conv .u8 (.t 16), none, none, [], none⟩,
    ⟨(some 18), .mv (.t 3), none, none, [], none⟩,
    ⟨(some 19), .bin .rem (.t 18) (.k (.int .u32 256)), none, none, [], none⟩,
    ⟨(some 20), .conv .u8 (.t 19), none, none, [], none⟩,
    ⟨(some 21), .blds false [(.int .u8 0)] 4 [(0, (.t 9)), (1, (.t 13)), (2, (.t 17)), (3, (.t 20))], none, none, [], none⟩,
    ⟨(some 22), .b2s (.t 21), none, none, [], none⟩,
    ⟨(some 23), .bin .add (.t 6) (.t 22), none, none, [], none⟩,
    ⟨(some 2), .mv (.t 23), none, none, [], none⟩]
theorem u_ref02_Seal_2 {P bb Q f ob} : AWP P bb ac_ref02_Seal_2 Q ⟨f, ob⟩ = AWP P bb (.reg [⟨(some 6), .mv (.t 0), none, none, [], none⟩,
    ⟨(some 7), .mv (.t 3), none, none, [], none⟩,
    ⟨(some 8), .bin .quo (.t 7) (.k (.int .u32 16777216)), none, none, [], none⟩,
    ⟨(some 9), .conv .u8 (.t 8), none, none, [], none⟩,
    ⟨(some 10), .mv (.t 3), none, none, [], none⟩,
    ⟨(some 11), .bin .quo (.t 10) (.k (.int .u32 65536)), none, none, [], none⟩,
    ⟨(some 12), .bin .rem (.t 11) (.k (.int .u32 256)), none, none, [], none⟩,
    ⟨(some 13), .conv .u8 (.t 12), none, none, [], none⟩,
    ⟨(some 14), .mv (.t 3), none, none, [], none⟩,
    ⟨(some 15), .bin .quo (.t 14) (.k (.int .u32 256)), none, none, [], none⟩,
    ⟨(some 16), .bin .rem (.t 15) (.k (.int .u32 256)), none, none, [], none⟩,
    ⟨(some 17), .conv .u8 (.t 16), none, none, [], none⟩,
    ⟨(some 18), .mv (.t 3), none, none, [], none⟩,
    ⟨(some 19), .bin .rem (.t 18) (.k (.int .u32 256)), none, none, [], none⟩,
    ⟨(some 20), .conv .u8 (.t 19), none, none, [], none⟩,
    ⟨(some 21), .blds false [(.int .u8 0)] 4 [(0, (.t 9)), (1, (.t 13)), (2, (.t 17)), (3, (.t 20))], none, none, [], none⟩,
    ⟨(some 22), .b2s (.t 21), none, none, [], none⟩,
    ⟨(some 23), .bin .add (.t 6) (.t 22), none, none, [], none⟩,
    ⟨(some 2), .mv (.t 23), none, none, [], none⟩]) Q ⟨f, ob⟩ := nr rfl
def ac_ref02_Seal_3 : AC := .seq ac_ref02_Seal_2 .ret
theorem u_ref02_Seal_3 {P bb Q f ob} : AWP P bb ac_ref02_Seal_3 Q ⟨f, ob⟩ = AWP P bb (.seq ac_ref02_Seal_2 .ret) Q ⟨f, ob⟩ := nr rfl
def ac_ref02_Seal_4 : AC := .seq ac_ref02_Seal_1 ac_ref02_Seal_3
theorem u_ref02_Seal_4 {P bb Q f ob} : AWP P bb ac_ref02_Seal_4 Q ⟨f, ob⟩ = AWP P bb (.seq ac_ref02_Seal_1 ac_ref02_Seal_3) Q ⟨f, ob⟩ := nr rfl
def ac_ref02_Seal_5 : AC := .seq ac_ref02_Seal_0 ac_ref02_Seal_4
theorem u_ref02_Seal_5 {P bb Q f ob} : AWP P bb ac_ref02_Seal_5 Q ⟨f, ob⟩ = AWP P bb (.seq ac_ref02_Seal_0 ac_ref02_Seal_4) Q ⟨f, ob⟩ := nr rfl
def ac_ref02_Seal : AC := ac_ref02_Seal_5
theorem comp_ref02_Seal : compF Try.prog [] (drawR Try.prog [] Try.f16.ntmps) [] 1 Try.f16 = some (ac_ref02_Seal, [.t 2]) := by kernel_rfl

/- scoria/check.Open -/
def ac_check_Open_0 : AC := .reg [⟨(some 2), .mv (.k (.str [])), none, none, [], none⟩,
    ⟨(some 3), .mv (.k (.int .i64 0)), none, none, [], none⟩]
theorem u_check_Open_0 {P bb Q f ob} : AWP P bb ac_check_Open_0 Q ⟨f, ob⟩ = AWP P bb (.reg [⟨(some 2), .mv (.k (.str [])), none, none, [], none⟩,
    ⟨(some 3), .mv (.k (.int .i64 0)), none, none, [], none⟩]) Q ⟨f, ob⟩ := nr rfl
def ac_check_Open_1 : AC := .reg [⟨(some 5), .mv (.t 0), none, none, [], none⟩,
    ⟨(some 6), .lens (.t 5), none, none, [], none⟩,
    ⟨(some 7), .bin .sub (.t 6) (.k (.int .i64 4)), none, none, [], none⟩,
    ⟨(some 4), .mv (.t 7), none, none, [], none⟩]
theorem u_check_Open_1 {P bb Q f ob} : AWP P bb ac_check_Open_1 Q ⟨f, ob⟩ = AWP P bb (.reg [⟨(some 5), .mv (.t 0), none, none, [], none⟩,
    ⟨(some 6), .lens (.t 5), none, none, [], none⟩,
    ⟨(some 7), .bin .sub (.t 6) (.k (.int .i64 4)), none, none, [], none⟩,
    ⟨(some 4), .mv (.t 7), none, none, [], none⟩]) Q ⟨f, ob⟩ := nr rfl
def ac_check_Open_2 : AC := .reg [⟨(some 9), .mv (.t 4), none, none, [], none⟩,
    ⟨(some 10), .bin .lss (.t 9) (.k (.int .i64 0)), none, none, [], none⟩,
    ⟨(some 8), .mv (.t 10), none, none, [], none⟩]
theorem u_check_Open_2 {P bb Q f ob} : AWP P bb ac_check_Open_2 Q ⟨f, ob⟩ = AWP P bb (.reg [⟨(some 9), .mv (.t 4), none, none, [], none⟩,
    ⟨(some 10), .bin .lss (.t 9) (.k (.int .i64 0)), none, none, [], none⟩,
    ⟨(some 8), .mv (.t 10), none, none, [], none⟩]) Q ⟨f, ob⟩ := nr rfl
def ac_check_Open_3 : AC := .reg [⟨(some 2), .mv (.k (.str [])), none, none, [], none⟩,
    ⟨(some 3), .mv (.k (.int .i64 5)), none, none, [], none⟩]
theorem u_check_Open_3 {P bb Q f ob} : AWP P bb ac_check_Open_3 Q ⟨f, ob⟩ = AWP P bb (.reg [⟨(some 2), .mv (.k (.str [])), none, none, [], none⟩,
    ⟨(some 3), .mv (.k (.int .i64 5)), none, none, [], none⟩]) Q ⟨f, ob⟩ := nr rfl
def ac_check_Open_4 : AC := .seq ac_check_Open_3 .ret
theorem u_check_Open_4 {P bb Q f ob} : AWP P bb ac_check_Open_4 Q ⟨f, ob⟩ = AWP P bb (.seq ac_check_Open_3 .ret) Q ⟨f, ob⟩ := nr rfl
def ac_check_Open_5 : AC := .reg [⟨(some 12), .mv (.t 0), none, none, [], none⟩,
    ⟨(some 13), .mv (.t 4), none, none, [], none⟩,
    ⟨(some 14), .sstr (.t 12) none (some (.t 13)), none, none, [], none⟩,
    ⟨(some 15), .call false 15 [(.t 14)], none, none, [], none⟩,
    ⟨(some 16), .mv (.t 0), none, none, [], none⟩,
    ⟨(some 17), .bin .neq (.t 15) (.t 16), none, none, [], none⟩,
    ⟨(some 11), .mv (.t 17), none, none, [], none⟩]
theorem u_check_Open_5 {P bb Q f ob} : AWP P bb ac_check_Open_5 Q ⟨f, ob⟩ = AWP P bb (.reg [⟨(some 12), .mv (.t 0), none, none, [], none⟩,
    ⟨(some 13), .mv (.t 4), none, none, [], none⟩,
    ⟨(some 14), .sstr (.t 12) none (some (.t 13)), none, none, [], none⟩,
    ⟨(some 15), .call false 15 [(.t 14)], none, none, [], none⟩,
    ⟨(some 16), .mv (.t 0), none, none, [], none⟩,
    ⟨(some 17), .bin .neq (.t 15) (.t 16), none, none, [], none⟩,
    ⟨(some 11), .mv (.t 17), none, none, [], none⟩]) Q ⟨f, ob⟩ := nr rfl
def ac_check_Open_6 : AC := .reg [⟨(some 2), .mv (.k (.str [])), none, none, [], none⟩,
    ⟨(some 3), .mv (.k (.int .i64 6)), none, none, [], none⟩]
theorem u_check_Open_6 {P bb Q f ob} : AWP P bb ac_check_Open_6 Q ⟨f, ob⟩ = AWP P bb (.reg [⟨(some 2), .mv (.k (.str [])), none, none, [], none⟩,
    ⟨(some 3), .mv (.k (.int .i64 6)), none, none, [], none⟩]) Q ⟨f, ob⟩ := nr rfl
def ac_check_Open_7 : AC := .seq ac_check_Open_6 .ret
theorem u_check_Open_7 {P bb Q f ob} : AWP P bb ac_check_Open_7 Q ⟨f, ob⟩ = AWP P bb (.seq ac_check_Open_6 .ret) Q ⟨f, ob⟩ := nr rfl
def ac_check_Open_8 : AC := .cond (.t 11) ac_check_Open_7 .skip
theorem u_check_Open_8 {P bb Q f ob} : AWP P bb ac_check_Open_8 Q ⟨f, ob⟩ = AWP P bb (.cond (.t 11) ac_check_Open_7 .skip) Q ⟨f, ob⟩ := nr rfl
def ac_check_Open_9 : AC := .seq ac_check_Open_5 ac_check_Open_8
theorem u_check_Open_9 {P bb Q f ob} : AWP P bb ac_check_Open_9 Q ⟨f, ob⟩ = AWP P bb (.seq ac_check_Open_5 ac_check_Open_8) Q ⟨f, ob⟩ := nr rfl
def ac_check_Open_10 : AC := .cond (.t 8) ac_check_Open_4 ac_check_Open_9
theorem u_check_Open_10 {P bb Q f ob} : AWP P bb ac_check_Open_10 Q ⟨f, ob⟩ = AWP P bb (.cond (.t 8) ac_check_Open_4 ac_check_Open_9) Q ⟨f, ob⟩ := nr rfl
def ac_check_Open_11 : AC := .seq ac_check_Open_2 ac_check_Open_10
theorem u_check_Open_11 {P bb Q f ob} : AWP P bb ac_check_Open_11 Q ⟨f, ob⟩ = AWP P bb (.seq ac_check_Open_2 ac_check_Open_10) Q ⟨f, ob⟩ := nr rfl
def ac_check_Open_12 : AC := .block 0 ac_check_Open_11
theorem u_check_Open_12 {P bb Q f ob} : AWP P bb ac_check_Open_12 Q ⟨f, ob⟩ = AWP P bb (.block 0 ac_check_Open_11) Q ⟨f, ob⟩ := nr rfl
def ac_check_Open_13 : AC := .reg [⟨(some 18), .mv (.t 0), none, none, [], none⟩,
    ⟨(some 19), .mv (.t 4), none, none, [], none⟩,
    ⟨(some 20), .sstr (.t 18) none (some (.t 19)), none, none, [], none⟩,
    ⟨(some 2), .mv (.t 20), none, none, [], none⟩,
    ⟨(some 3), .mv (.k (.int .i64 0)), none, none, [], none⟩]
theorem u_check_Open_13 {P bb Q f ob} : AWP P bb ac_check_Open_13 Q ⟨f, ob⟩ = AWP P bb (.reg [⟨(some 18), .mv (.t 0), none, none, [], none⟩,
    ⟨(some 19), .mv (.t 4), none, none, [], none⟩,
    ⟨(some 20), .sstr (.t 18) none (some (.t 19)), none, none, [], none⟩,
    ⟨(some 2), .mv (.t 20), none, none, [], none⟩,
    ⟨(some 3), .mv (.k (.int .i64 0)), none, none, [], none⟩]) Q ⟨f, ob⟩ := nr rfl
def ac_check_Open_14 : AC := .seq ac_check_Open_13 .ret
theorem u_check_Open_14 {P bb Q f ob} : AWP P bb ac_check_Open_14 Q ⟨f, ob⟩ = AWP P bb (.seq ac_check_Open_13 .ret) Q ⟨f, ob⟩ := nr rfl
def ac_check_Open_15 : AC := .seq ac_check_Open_12 ac_check_Open_14
theorem u_check_Open_15 {P bb Q f ob} : AWP P bb ac_check_Open_15 Q ⟨f, ob⟩ = AWP P bb (.seq ac_check_Open_12 ac_check_Open_14) Q ⟨f, ob⟩ := nr rfl
def ac_check_Open_16 : AC := .seq ac_check_Open_1 ac_check_Open_15
theorem u_check_Open_16 {P bb Q f ob} : AWP P bb ac_check_Open_16 Q ⟨f, ob⟩ = AWP P bb (.seq ac_check_Open_1 ac_check_Open_15) Q ⟨f, ob⟩ := nr rfl
def ac_check_Open_17 : AC := .seq ac_check_Open_0 ac_check_Open_16
theorem u_check_Open_17 {P bb Q f ob} : AWP P bb ac_check_Open_17 Q ⟨f, ob⟩ = AWP P bb (.seq ac_check_Open_0 ac_check_Open_16) Q ⟨f, ob⟩ := nr rfl
def ac_check_Open : AC := ac_check_Open_17
theorem comp_check_Open : compF Try.prog [] (drawR Try.prog [] Try.f17.ntmps) [] 1 Try.f17 = some (ac_check_Open, [.t 2, .t 3]) := by kernel_rfl

/- scoria/scoriaref02.Open -/
def ac_ref02_Open_0 : AC := .reg [⟨(some 2), .mv (.k (.str [])), none, none, [], none⟩,
    ⟨(some 3), .mv (.k (.int .i64 0)), none, none, [], none⟩]
theorem u_ref02_Open_0 {P bb Q f ob} : AWP P bb ac_ref02_Open_0 Q ⟨f, ob⟩ = AWP P bb (.reg [⟨(some 2), .mv (.k (.str [])), none, none, [], none⟩,
    ⟨(some 3), .mv (.k (.int .i64 0)), none, none, [], none⟩]) Q ⟨f, ob⟩ := nr rfl
def ac_ref02_Open_1 : AC := .reg [⟨(some 4), .mv (.t 0), none, none, [], none⟩,
    ⟨(some 5), .lens (.t 4), none, none, [], none⟩,
    ⟨(some 6), .bin .lss (.t 5) (.k (.int .i64 4)), none, none, [], none⟩]
theorem u_ref02_Open_1 {P bb Q f ob} : AWP P bb ac_ref02_Open_1 Q ⟨f, ob⟩ = AWP P bb (.reg [⟨(some 4), .mv (.t 0), none, none, [], none⟩,
    ⟨(some 5), .lens (.t 4), none, none, [], none⟩,
    ⟨(some 6), .bin .lss (.t 5) (.k (.int .i64 4)), none, none, [], none⟩]) Q ⟨f, ob⟩ := nr rfl
def ac_ref02_Open_2 : AC := .reg [⟨(some 2), .mv (.k (.str [])), none, none, [], none⟩,
    ⟨(some 3), .mv (.k (.int .i64 5)), none, none, [], none⟩]
theorem u_ref02_Open_2 {P bb Q f ob} : AWP P bb ac_ref02_Open_2 Q ⟨f, ob⟩ = AWP P bb (.reg [⟨(some 2), .mv (.k (.str [])), none, none, [], none⟩,
    ⟨(some 3), .mv (.k (.int .i64 5)), none, none, [], none⟩]) Q ⟨f, ob⟩ := nr rfl
def ac_ref02_Open_3 : AC := .seq ac_ref02_Open_2 .ret
theorem u_ref02_Open_3 {P bb Q f ob} : AWP P bb ac_ref02_Open_3 Q ⟨f, ob⟩ = AWP P bb (.seq ac_ref02_Open_2 .ret) Q ⟨f, ob⟩ := nr rfl
def ac_ref02_Open_4 : AC := .cond (.t 6) ac_ref02_Open_3 .skip
theorem u_ref02_Open_4 {P bb Q f ob} : AWP P bb ac_ref02_Open_4 Q ⟨f, ob⟩ = AWP P bb (.cond (.t 6) ac_ref02_Open_3 .skip) Q ⟨f, ob⟩ := nr rfl
def ac_ref02_Open_5 : AC := .seq ac_ref02_Open_1 ac_ref02_Open_4
theorem u_ref02_Open_5 {P bb Q f ob} : AWP P bb ac_ref02_Open_5 Q ⟨f, ob⟩ = AWP P bb (.seq ac_ref02_Open_1 ac_ref02_Open_4) Q ⟨f, ob⟩ := nr rfl
def ac_ref02_Open_6 : AC := .reg [⟨(some 7), .mv (.t 0), none, none, [], none⟩,
    ⟨(some 8), .mv (.t 0), none, none, [], none⟩,
    ⟨(some 9), .lens (.t 8), none, none, [], none⟩,
    ⟨(some 10), .bin .sub (.t 9) (.k (.int .i64 4)), none, none, [], none⟩,
    ⟨(some 11), .sstr (.t 7) none (some (.t 10)), none, none, [], none⟩,
    ⟨(some 12), .call false 16 [(.t 11)], none, none, [], none⟩,
    ⟨(some 13), .mv (.t 0), none, none, [], none⟩,
    ⟨(some 14), .bin .neq (.t 12) (.t 13), none, none, [], none⟩]
theorem u_ref02_Open_6 {P bb Q f ob} : AWP P bb ac_ref02_Open_6 Q ⟨f, ob⟩ = AWP P bb (.reg [⟨(some 7), .mv (.t 0), none, none, [], none⟩,
    ⟨(some 8), .mv (.t 0), none, none, [], none⟩,
    ⟨(some 9), .lens (.t 8), none, none, [], none⟩,
    ⟨(some 10), .bin .sub (.t 9) (.k (.int .i64 4)), none, none, [], none⟩,
    ⟨(some 11), .sstr (.t 7) none (some (.t 10)), none, none, [], none⟩,
    ⟨(some 12), .call false 16 [(.t 11)], none, none, [], none⟩,
    ⟨(some 13), .mv (.t 0), none, none, [], none⟩,
    ⟨(some 14), .bin .neq (.t 12) (.t 13), none, none, [], none⟩]) Q ⟨f, ob⟩ := nr rfl
def ac_ref02_Open_7 : AC := .reg [⟨(some 2), .mv (.k (.str [])), none, none, [], none⟩,
    ⟨(some 3), .mv (.k (.int .i64 6)), none, none, [], none⟩]
theorem u_ref02_Open_7 {P bb Q f ob} : AWP P bb ac_ref02_Open_7 Q ⟨f, ob⟩ = AWP P bb (.reg [⟨(some 2), .mv (.k (.str [])), none, none, [], none⟩,
    ⟨(some 3), .mv (.k (.int .i64 6)), none, none, [], none⟩]) Q ⟨f, ob⟩ := nr rfl
def ac_ref02_Open_8 : AC := .seq ac_ref02_Open_7 .ret
theorem u_ref02_Open_8 {P bb Q f ob} : AWP P bb ac_ref02_Open_8 Q ⟨f, ob⟩ = AWP P bb (.seq ac_ref02_Open_7 .ret) Q ⟨f, ob⟩ := nr rfl
def ac_ref02_Open_9 : AC := .cond (.t 14) ac_ref02_Open_8 .skip
theorem u_ref02_Open_9 {P bb Q f ob} : AWP P bb ac_ref02_Open_9 Q ⟨f, ob⟩ = AWP P bb (.cond (.t 14) ac_ref02_Open_8 .skip) Q ⟨f, ob⟩ := nr rfl
def ac_ref02_Open_10 : AC := .seq ac_ref02_Open_6 ac_ref02_Open_9
theorem u_ref02_Open_10 {P bb Q f ob} : AWP P bb ac_ref02_Open_10 Q ⟨f, ob⟩ = AWP P bb (.seq ac_ref02_Open_6 ac_ref02_Open_9) Q ⟨f, ob⟩ := nr rfl
def ac_ref02_Open_11 : AC := .reg [⟨(some 15), .mv (.t 0), none, none, [], none⟩,
    ⟨(some 16), .mv (.t 0), none, none, [], none⟩,
    ⟨(some 17), .lens (.t 16), none, none, [], none⟩,
    ⟨(some 18), .bin .sub (.t 17) (.k (.int .i64 4)), none, none, [], none⟩,
    ⟨(some 19), .sstr (.t 15) none (some (.t 18)), none, none, [], none⟩,
    ⟨(some 2), .mv (.t 19), none, none, [], none⟩,
    ⟨(some 3), .mv (.k (.int .i64 0)), none, none, [], none⟩]
theorem u_ref02_Open_11 {P bb Q f ob} : AWP P bb ac_ref02_Open_11 Q ⟨f, ob⟩ = AWP P bb (.reg [⟨(some 15), .mv (.t 0), none, none, [], none⟩,
    ⟨(some 16), .mv (.t 0), none, none, [], none⟩,
    ⟨(some 17), .lens (.t 16), none, none, [], none⟩,
    ⟨(some 18), .bin .sub (.t 17) (.k (.int .i64 4)), none, none, [], none⟩,
    ⟨(some 19), .sstr (.t 15) none (some (.t 18)), none, none, [], none⟩,
    ⟨(some 2), .mv (.t 19), none, none, [], none⟩,
    ⟨(some 3), .mv (.k (.int .i64 0)), none, none, [], none⟩]) Q ⟨f, ob⟩ := nr rfl
def ac_ref02_Open_12 : AC := .seq ac_ref02_Open_11 .ret
theorem u_ref02_Open_12 {P bb Q f ob} : AWP P bb ac_ref02_Open_12 Q ⟨f, ob⟩ = AWP P bb (.seq ac_ref02_Open_11 .ret) Q ⟨f, ob⟩ := nr rfl
def ac_ref02_Open_13 : AC := .seq ac_ref02_Open_10 ac_ref02_Open_12
theorem u_ref02_Open_13 {P bb Q f ob} : AWP P bb ac_ref02_Open_13 Q ⟨f, ob⟩ = AWP P bb (.seq ac_ref02_Open_10 ac_ref02_Open_12) Q ⟨f, ob⟩ := nr rfl
def ac_ref02_Open_14 : AC := .seq ac_ref02_Open_5 ac_ref02_Open_13
theorem u_ref02_Open_14 {P bb Q f ob} : AWP P bb ac_ref02_Open_14 Q ⟨f, ob⟩ = AWP P bb (.seq ac_ref02_Open_5 ac_ref02_Open_13) Q ⟨f, ob⟩ := nr rfl
def ac_ref02_Open_15 : AC := .seq ac_ref02_Open_0 ac_ref02_Open_14
theorem u_ref02_Open_15 {P bb Q f ob} : AWP P bb ac_ref02_Open_15 Q ⟨f, ob⟩ = AWP P bb (.seq ac_ref02_Open_0 ac_ref02_Open_14) Q ⟨f, ob⟩ := nr rfl
def ac_ref02_Open : AC := ac_ref02_Open_15
theorem comp_ref02_Open : compF Try.prog [] (drawR Try.prog [] Try.f18.ntmps) [] 1 Try.f18 = some (ac_ref02_Open, [.t 2, .t 3]) := by kernel_rfl

/- scoria/scoriaref02.divided -/
def ac_ref02_divided_0 : AC := .reg [⟨(some 4), .mv (.k (.int .u32 0)), none, none, [], none⟩]
theorem u_ref02_divided_0 {P bb Q f ob} : AWP P bb ac_ref02_divided_0 Q ⟨f, ob⟩ = AWP P bb (.reg [⟨(some 4), .mv (.k (.int .u32 0)), none, none, [], none⟩]) Q ⟨f, ob⟩ := nr rfl
def ac_ref02_divided_1 : AC := .reg [⟨(some 5), .mv (.k (.int .i64 0)), none, none, [], none⟩]
theorem u_ref02_divided_1 {P bb Q f ob} : AWP P bb ac_ref02_divided_1 Q ⟨f, ob⟩ = AWP P bb (.reg [⟨(some 5), .mv (.k (.int .i64 0)), none, none, [], none⟩]) Q ⟨f, ob⟩ := nr rfl
def ac_ref02_divided_2 : AC := .reg [⟨(some 9), .mv (.t 5), none, none, [], none⟩,
    ⟨(some 10), .mv (.t 1), none, none, [], none⟩,
    ⟨(some 11), .lens (.t 10), none, none, [], none⟩,
    ⟨(some 12), .bin .lss (.t 9) (.t 11), none, none, [], none⟩]
theorem u_ref02_divided_2 {P bb Q f ob} : AWP P bb ac_ref02_divided_2 Q ⟨f, ob⟩ = AWP P bb (.reg [⟨(some 9), .mv (.t 5), none, none, [], none⟩,
    ⟨(some 10), .mv (.t 1), none, none, [], none⟩,
    ⟨(some 11), .lens (.t 10), none, none, [], none⟩,
    ⟨(some 12), .bin .lss (.t 9) (.t 11), none, none, [], none⟩]) Q ⟨f, ob⟩ := nr rfl
def ac_ref02_divided_3 : AC := .cond (.t 12) .skip (.exit 0)
theorem u_ref02_divided_3 {P bb Q f ob} : AWP P bb ac_ref02_divided_3 Q ⟨f, ob⟩ = AWP P bb (.cond (.t 12) .skip (.exit 0)) Q ⟨f, ob⟩ := nr rfl
def ac_ref02_divided_4 : AC := .seq ac_ref02_divided_2 ac_ref02_divided_3
theorem u_ref02_divided_4 {P bb Q f ob} : AWP P bb ac_ref02_divided_4 Q ⟨f, ob⟩ = AWP P bb (.seq ac_ref02_divided_2 ac_ref02_divided_3) Q ⟨f, ob⟩ := nr rfl
def ac_ref02_divided_5 : AC := .reg [⟨(some 6), .mv (.k (.int .i64 7)), none, none, [], none⟩]
theorem u_ref02_divided_5 {P bb Q f ob} : AWP P bb ac_ref02_divided_5 Q ⟨f, ob⟩ = AWP P bb (.reg [⟨(some 6), .mv (.k (.int .i64 7)), none, none, [], none⟩]) Q ⟨f, ob⟩ := nr rfl
def ac_ref02_divided_6 : AC := .reg [⟨(some 15), .mv (.t 6), none, none, [], none⟩,
    ⟨(some 16), .bin .geq (.t 15) (.k (.int .i64 0)), none, none, [], none⟩]
theorem u_ref02_divided_6 {P bb Q f ob} : AWP P bb ac_ref02_divided_6 Q ⟨f, ob⟩ = AWP P bb (.reg [⟨(some 15), .mv (.t 6), none, none, [], none⟩,
    ⟨(some 16), .bin .geq (.t 15) (.k (.int .i64 0)), none, none, [], none⟩]) Q ⟨f, ob⟩ := nr rfl
def ac_ref02_divided_7 : AC := .cond (.t 16) .skip (.exit 2)
theorem u_ref02_divided_7 {P bb Q f ob} : AWP P bb ac_ref02_divided_7 Q ⟨f, ob⟩ = AWP P bb (.cond (.t 16) .skip (.exit 2)) Q ⟨f, ob⟩ := nr rfl
def ac_ref02_divided_8 : AC := .seq ac_ref02_divided_6 ac_ref02_divided_7
theorem u_ref02_divided_8 {P bb Q f ob} : AWP P bb ac_ref02_divided_8 Q ⟨f, ob⟩ = AWP P bb (.seq ac_ref02_divided_6 ac_ref02_divided_7) Q ⟨f, ob⟩ := nr rfl
def ac_ref02_divided_9 : AC := .reg [⟨(some 19), .mv (.t 1), none, none, [], none⟩,
    ⟨(some 20), .mv (.t 5), none, none, [], none⟩,
    ⟨(some 21), .idxs (.t 19) (.t 20), none, none, [], none⟩,
    ⟨(some 22), .mv (.t 6), none, none, [], none⟩,
    ⟨(some 23), .conv .u64 (.t 22), none, none, [], none⟩,
    ⟨(some 24), .bin .shr (.t 21) (.t 23), none, none, [], none⟩,
    ⟨(some 25), .conv .u32 (.t 24), none, none, [], none⟩,
    ⟨(some 26), .bin .and (.t 25) (.k (.int .u32 1)), none, none, [], none⟩,
    ⟨(some 7), .mv (.t 26), none, none, [], none⟩]
theorem u_ref02_divided_9 {P bb Q f ob} : AWP P bb ac_ref02_divided_9 Q ⟨f, ob⟩ = AWP P bb (.reg [⟨(some 19), .mv (.t 1), none, none, [], none⟩,
    ⟨(some 20), .mv (.t 5), none, none, [], none⟩,
    ⟨(some 21), .idxs (.t 19) (.t 20), none, none, [], none⟩,
    ⟨(some 22), .mv (.t 6), none, none, [], none⟩,
    ⟨(some 23), .conv .u64 (.t 22), none, none, [], none⟩,
    ⟨(some 24), .bin .shr (.t 21) (.t 23), none, none, [], none⟩,
    ⟨(some 25), .conv .u32 (.t 24), none, none, [], none⟩,
    ⟨(some 26), .bin .and (.t 25) (.k (.int .u32 1)), none, none, [], none⟩,
    ⟨(some 7), .mv (.t 26), none, none, [], none⟩]) Q ⟨f, ob⟩ := nr rfl
def ac_ref02_divided_10 : AC := .reg [⟨(some 27), .mv (.t 0), none, none, [], none⟩,
    ⟨(some 28), .bin .shr (.t 27) (.k (.int .u64 31)), none, none, [], none⟩,
    ⟨(some 8), .mv (.t 28), none, none, [], none⟩]
theorem u_ref02_divided_10 {P bb Q f ob} : AWP P bb ac_ref02_divided_10 Q ⟨f, ob⟩ = AWP P bb (.reg [⟨(some 27), .mv (.t 0), none, none, [], none⟩,
    ⟨(some 28), .bin .shr (.t 27) (.k (.int .u64 31)), none, none, [], none⟩,
    ⟨(some 8), .mv (.t 28), none, none, [], none⟩]) Q ⟨f, ob⟩ := nr rfl
def ac_ref02_divided_11 : AC := .reg [⟨(some 29), .mv (.t 0), none, none, [], none⟩,
    ⟨(some 30), .bin .shl (.t 29) (.k (.int .u64 1)), none, none, [], none⟩,
    ⟨(some 0), .mv (.t 30), none, none, [], none⟩]
theorem u_ref02_divided_11 {P bb Q f ob} : AWP P bb ac_ref02_divided_11 Q ⟨f, ob⟩ = AWP P bb (.reg [⟨(some 29), .mv (.t 0), none, none, [], none⟩,
    ⟨(some 30), .bin .shl (.t 29) (.k (.int .u64 1)), none, none, [], none⟩,
    ⟨(some 0), .mv (.t 30), none, none, [], none⟩]) Q ⟨f, ob⟩ := nr rfl
def ac_ref02_divided_12 : AC := .reg [⟨(some 31), .mv (.t 8), none, none, [], none⟩,
    ⟨(some 32), .mv (.t 7), none, none, [], none⟩,
    ⟨(some 33), .bin .neq (.t 31) (.t 32), none, none, [], none⟩]
theorem u_ref02_divided_12 {P bb Q f ob} : AWP P bb ac_ref02_divided_12 Q ⟨f, ob⟩ = AWP P bb (.reg [⟨(some 31), .mv (.t 8), none, none, [], none⟩,
    ⟨(some 32), .mv (.t 7), none, none, [], none⟩,
    ⟨(some 33), .bin .neq (.t 31) (.t 32), none, none, [], none⟩]) Q ⟨f, ob⟩ := nr rfl
def ac_ref02_divided_13 : AC := .reg [⟨(some 34), .mv (.t 0), none, none, [], none⟩,
    ⟨(some 35), .bin .xor (.t 34) (.k (.int .u32 79764919)), none, none, [], none⟩,
    ⟨(some 0), .mv (.t 35), none, none, [], none⟩]
theorem u_ref02_divided_13 {P bb Q f ob} : AWP P bb ac_ref02_divided_13 Q ⟨f, ob⟩ = AWP P bb (.reg [⟨(some 34), .mv (.t 0), none, none, [], none⟩,
    ⟨(some 35), .bin .xor (.t 34) (.k (.int .u32 79764919)), none, none, [], none⟩,
    ⟨(some 0), .mv (.t 35), none, none, [], none⟩]) Q ⟨f, ob⟩ := nr rfl
def ac_ref02_divided_14 : AC := .cond (.t 33) ac_ref02_divided_13 .skip
theorem u_ref02_divided_14 {P bb Q f ob} : AWP P bb ac_ref02_divided_14 Q ⟨f, ob⟩ = AWP P bb (.cond (.t 33) ac_ref02_divided_13 .skip) Q ⟨f, ob⟩ := nr rfl
def ac_ref02_divided_15 : AC := .seq ac_ref02_divided_12 ac_ref02_divided_14
theorem u_ref02_divided_15 {P bb Q f ob} : AWP P bb ac_ref02_divided_15 Q ⟨f, ob⟩ = AWP P bb (.seq ac_ref02_divided_12 ac_ref02_divided_14) Q ⟨f, ob⟩ := nr rfl
def ac_ref02_divided_16 : AC := .seq ac_ref02_divided_11 ac_ref02_divided_15
theorem u_ref02_divided_16 {P bb Q f ob} : AWP P bb ac_ref02_divided_16 Q ⟨f, ob⟩ = AWP P bb (.seq ac_ref02_divided_11 ac_ref02_divided_15) Q ⟨f, ob⟩ := nr rfl
def ac_ref02_divided_17 : AC := .seq ac_ref02_divided_10 ac_ref02_divided_16
theorem u_ref02_divided_17 {P bb Q f ob} : AWP P bb ac_ref02_divided_17 Q ⟨f, ob⟩ = AWP P bb (.seq ac_ref02_divided_10 ac_ref02_divided_16) Q ⟨f, ob⟩ := nr rfl
def ac_ref02_divided_18 : AC := .seq ac_ref02_divided_9 ac_ref02_divided_17
theorem u_ref02_divided_18 {P bb Q f ob} : AWP P bb ac_ref02_divided_18 Q ⟨f, ob⟩ = AWP P bb (.seq ac_ref02_divided_9 ac_ref02_divided_17) Q ⟨f, ob⟩ := nr rfl
def ac_ref02_divided_19 : AC := .block 3 ac_ref02_divided_18
theorem u_ref02_divided_19 {P bb Q f ob} : AWP P bb ac_ref02_divided_19 Q ⟨f, ob⟩ = AWP P bb (.block 3 ac_ref02_divided_18) Q ⟨f, ob⟩ := nr rfl
def ac_ref02_divided_20 : AC := .reg [⟨(some 17), .mv (.t 6), none, none, [], none⟩,
    ⟨(some 18), .bin .sub (.t 17) (.k (.int .i64 1)), none, none, [], none⟩,
    ⟨(some 6), .mv (.t 18), none, none, [], none⟩]
theorem u_ref02_divided_20 {P bb Q f ob} : AWP P bb ac_ref02_divided_20 Q ⟨f, ob⟩ = AWP P bb (.reg [⟨(some 17), .mv (.t 6), none, none, [], none⟩,
    ⟨(some 18), .bin .sub (.t 17) (.k (.int .i64 1)), none, none, [], none⟩,
    ⟨(some 6), .mv (.t 18), none, none, [], none⟩]) Q ⟨f, ob⟩ := nr rfl
def ac_ref02_divided_21 : AC := .seq ac_ref02_divided_19 ac_ref02_divided_20
theorem u_ref02_divided_21 {P bb Q f ob} : AWP P bb ac_ref02_divided_21 Q ⟨f, ob⟩ = AWP P bb (.seq ac_ref02_divided_19 ac_ref02_divided_20) Q ⟨f, ob⟩ := nr rfl
def ac_ref02_divided_22 : AC := .seq ac_ref02_divided_8 ac_ref02_divided_21
theorem u_ref02_divided_22 {P bb Q f ob} : AWP P bb ac_ref02_divided_22 Q ⟨f, ob⟩ = AWP P bb (.seq ac_ref02_divided_8 ac_ref02_divided_21) Q ⟨f, ob⟩ := nr rfl
def ac_ref02_divided_23 : AC := .loop [0, 1, 5, 6] 0 ac_ref02_divided_22
theorem u_ref02_divided_23 {P bb Q f ob} : AWP P bb ac_ref02_divided_23 Q ⟨f, ob⟩ = AWP P bb (.loop [0, 1, 5, 6] 0 ac_ref02_divided_22) Q ⟨f, ob⟩ := nr rfl
def ac_ref02_divided_24 : AC := .block 2 ac_ref02_divided_23
theorem u_ref02_divided_24 {P bb Q f ob} : AWP P bb ac_ref02_divided_24 Q ⟨f, ob⟩ = AWP P bb (.block 2 ac_ref02_divided_23) Q ⟨f, ob⟩ := nr rfl
def ac_ref02_divided_25 : AC := .seq ac_ref02_divided_5 ac_ref02_divided_24
theorem u_ref02_divided_25 {P bb Q f ob} : AWP P bb ac_ref02_divided_25 Q ⟨f, ob⟩ = AWP P bb (.seq ac_ref02_divided_5 ac_ref02_divided_24) Q ⟨f, ob⟩ := nr rfl
def ac_ref02_divided_26 : AC := .block 1 ac_ref02_divided_25
theorem u_ref02_divided_26 {P bb Q f ob} : AWP P bb ac_ref02_divided_26 Q ⟨f, ob⟩ = AWP P bb (.block 1 ac_ref02_divided_25) Q ⟨f, ob⟩ := nr rfl
def ac_ref02_divided_27 : AC := .reg [⟨(some 13), .mv (.t 5), none, none, [], none⟩,
    ⟨(some 14), .bin .add (.t 13) (.k (.int .i64 1)), none, none, [], none⟩,
    ⟨(some 5), .mv (.t 14), none, none, [], none⟩]
theorem u_ref02_divided_27 {P bb Q f ob} : AWP P bb ac_ref02_divided_27 Q ⟨f, ob⟩ = AWP P bb (.reg [⟨(some 13), .mv (.t 5), none, none, [], none⟩,
    ⟨(some 14), .bin .add (.t 13) (.k (.int .i64 1)), none, none, [], none⟩,
    ⟨(some 5), .mv (.t 14), none, none, [], none⟩]) Q ⟨f, ob⟩ := nr rfl
def ac_ref02_divided_28 : AC := .seq ac_ref02_divided_26 ac_ref02_divided_27
theorem u_ref02_divided_28 {P bb Q f ob} : AWP P bb ac_ref02_divided_28 Q ⟨f, ob⟩ = AWP P bb (.seq ac_ref02_divided_26 ac_ref02_divided_27) Q ⟨f, ob⟩ := nr rfl
def ac_ref02_divided_29 : AC := .seq ac_ref02_divided_4 ac_ref02_divided_28
theorem u_ref02_divided_29 {P bb Q f ob} : AWP P bb ac_ref02_divided_29 Q ⟨f, ob⟩ = AWP P bb (.seq ac_ref02_divided_4 ac_ref02_divided_28) Q ⟨f, ob⟩ := nr rfl
def ac_ref02_divided_30 : AC := .loop [0, 1, 5] 0 ac_ref02_divided_29
theorem u_ref02_divided_30 {P bb Q f ob} : AWP P bb ac_ref02_divided_30 Q ⟨f, ob⟩ = AWP P bb (.loop [0, 1, 5] 0 ac_ref02_divided_29) Q ⟨f, ob⟩ := nr rfl
def ac_ref02_divided_31 : AC := .block 0 ac_ref02_divided_30
theorem u_ref02_divided_31 {P bb Q f ob} : AWP P bb ac_ref02_divided_31 Q ⟨f, ob⟩ = AWP P bb (.block 0 ac_ref02_divided_30) Q ⟨f, ob⟩ := nr rfl
def ac_ref02_divided_32 : AC := .seq ac_ref02_divided_1 ac_ref02_divided_31
theorem u_ref02_divided_32 {P bb Q f ob} : AWP P bb ac_ref02_divided_32 Q ⟨f, ob⟩ = AWP P bb (.seq ac_ref02_divided_1 ac_ref02_divided_31) Q ⟨f, ob⟩ := nr rfl
def ac_ref02_divided_33 : AC := .reg [⟨(some 36), .mv (.t 0), none, none, [], none⟩,
    ⟨(some 4), .mv (.t 36), none, none, [], none⟩]
theorem u_ref02_divided_33 {P bb Q f ob} : AWP P bb ac_ref02_divided_33 Q ⟨f, ob⟩ = AWP P bb (.reg [⟨(some 36), .mv (.t 0), none, none, [], none⟩,
    ⟨(some 4), .mv (.t 36), none, none, [], none⟩]) Q ⟨f, ob⟩ := nr rfl
def ac_ref02_divided_34 : AC := .seq ac_ref02_divided_33 .ret
theorem u_ref02_divided_34 {P bb Q f ob} : AWP P bb ac_ref02_divided_34 Q ⟨f, ob⟩ = AWP P bb (.seq ac_ref02_divided_33 .ret) Q ⟨f, ob⟩ := nr rfl
def ac_ref02_divided_35 : AC := .seq ac_ref02_divided_32 ac_ref02_divided_34
theorem u_ref02_divided_35 {P bb Q f ob} : AWP P bb ac_ref02_divided_35 Q ⟨f, ob⟩ = AWP P bb (.seq ac_ref02_divided_32 ac_ref02_divided_34) Q ⟨f, ob⟩ := nr rfl
def ac_ref02_divided_36 : AC := .seq ac_ref02_divided_0 ac_ref02_divided_35
theorem u_ref02_divided_36 {P bb Q f ob} : AWP P bb ac_ref02_divided_36 Q ⟨f, ob⟩ = AWP P bb (.seq ac_ref02_divided_0 ac_ref02_divided_35) Q ⟨f, ob⟩ := nr rfl
def ac_ref02_divided : AC := ac_ref02_divided_36
theorem comp_ref02_divided : compF Try.prog [] (drawR Try.prog [] Try.f19.ntmps) [([0, 1, 5], 0), ([0, 1, 5, 6], 0)] 2 Try.f19 = some (ac_ref02_divided, [.t 4]) := by kernel_rfl

/- scoria/check.next -/
def ac_check_next_0 : AC := .reg [⟨(some 4), .mv (.k (.int .u32 0)), none, none, [], none⟩]
theorem u_check_next_0 {P bb Q f ob} : AWP P bb ac_check_next_0 Q ⟨f, ob⟩ = AWP P bb (.reg [⟨(some 4), .mv (.k (.int .u32 0)), none, none, [], none⟩]) Q ⟨f, ob⟩ := nr rfl
def ac_check_next_1 : AC := .reg [⟨(some 5), .mv (.t 0), none, none, [], none⟩,
    ⟨(some 6), .mv (.t 1), none, none, [], none⟩,
    ⟨(some 7), .conv .u32 (.t 6), none, none, [], none⟩,
    ⟨(some 8), .bin .shl (.t 7) (.k (.int .u64 24)), none, none, [], none⟩,
    ⟨(some 9), .bin .xor (.t 5) (.t 8), none, none, [], none⟩,
    ⟨(some 0), .mv (.t 9), none, none, [], none⟩]
theorem u_check_next_1 {P bb Q f ob} : AWP P bb ac_check_next_1 Q ⟨f, ob⟩ = AWP P bb (.reg [⟨(some 5), .mv (.t 0), none, none, [], none⟩,
    ⟨(some 6), .mv (.t 1), none, none, [], none⟩,
    ⟨(some 7), .conv .u32 (.t 6), none, none, [], none⟩,
    ⟨(some 8), .bin .shl (.t 7) (.k (.int .u64 24)), none, none, [], none⟩,
    ⟨(some 9), .bin .xor (.t 5) (.t 8), none, none, [], none⟩,
    ⟨(some 0), .mv (.t 9), none, none, [], none⟩]) Q ⟨f, ob⟩ := nr rfl
def ac_check_next_2 : AC := .reg [⟨(some 10), .mv (.k (.int .i64 0)), none, none, [], none⟩]
theorem u_check_next_2 {P bb Q f ob} : AWP P bb ac_check_next_2 Q ⟨f, ob⟩ = AWP P bb (.reg [⟨(some 10), .mv (.k (.int .i64 0)), none, none, [], none⟩]) Q ⟨f, ob⟩ := nr rfl
def ac_check_next_3 : AC := .reg [⟨(some 11), .bin .lss (.t 10) (.k (.int .i64 8)), none, none, [], none⟩]
theorem u_check_next_3 {P bb Q f ob} : AWP P bb ac_check_next_3 Q ⟨f, ob⟩ = AWP P bb (.reg [⟨(some 11), .bin .lss (.t 10) (.k (.int .i64 8)), none, none, [], none⟩]) Q ⟨f, ob⟩ := nr rfl
def ac_check_next_4 : AC := .cond (.t 11) .skip (.exit 0)
theorem u_check_next_4 {P bb Q f ob} : AWP P bb ac_check_next_4 Q ⟨f, ob⟩ = AWP P bb (.cond (.t 11) .skip (.exit 0)) Q ⟨f, ob⟩ := nr rfl
def ac_check_next_5 : AC := .reg [⟨(some 12), .mv (.t 0), none, none, [], none⟩,
    ⟨(some 13), .bin .shr (.t 12) (.k (.int .u64 31)), none, none, [], none⟩,
    ⟨(some 14), .bin .eql (.t 13) (.k (.int .u32 1)), none, none, [], none⟩]
theorem u_check_next_5 {P bb Q f ob} : AWP P bb ac_check_next_5 Q ⟨f, ob⟩ = AWP P bb (.reg [⟨(some 12), .mv (.t 0), none, none, [], none⟩,
    ⟨(some 13), .bin .shr (.t 12) (.k (.int .u64 31)), none, none, [], none⟩,
    ⟨(some 14), .bin .eql (.t 13) (.k (.int .u32 1)), none, none, [], none⟩]) Q ⟨f, ob⟩ := nr rfl
def ac_check_next_6 : AC := .reg [⟨(some 15), .mv (.t 0), none, none, [], none⟩,
    ⟨(some 16), .bin .shl (.t 15) (.k (.int .u64 1)), none, none, [], none⟩,
    ⟨(some 17), .bin .xor (.t 16) (.k (.int .u32 79764919)), none, none, [], none⟩,
    ⟨(some 0), .mv (.t 17), none, none, [], none⟩]
theorem u_check_next_6 {P bb Q f ob} : AWP P bb ac_check_next_6 Q ⟨f, ob⟩ = AWP P bb (.reg [⟨(some 15), .mv (.t 0), none, none, [], none⟩,
    ⟨(some 16), .bin .shl (.t 15) (.k (.int .u64 1)), none, none, [], none⟩,
    ⟨(some 17), .bin .xor (.t 16) (.k (.int .u32 79764919)), none, none, [], none⟩,
    ⟨(some 0), .mv (.t 17), none, none, [], none⟩]) Q ⟨f, ob⟩ := nr rfl
def ac_check_next_7 : AC := .reg [⟨(some 18), .mv (.t 0), none, none, [], none⟩,
    ⟨(some 19), .bin .shl (.t 18) (.k (.int .u64 1)), none, none, [], none⟩,
    ⟨(some 0), .mv (.t 19), none, none, [], none⟩]
theorem u_check_next_7 {P bb Q f ob} : AWP P bb ac_check_next_7 Q ⟨f, ob⟩ = AWP P bb (.reg [⟨(some 18), .mv (.t 0), none, none, [], none⟩,
    ⟨(some 19), .bin .shl (.t 18) (.k (.int .u64 1)), none, none, [], none⟩,
    ⟨(some 0), .mv (.t 19), none, none, [], none⟩]) Q ⟨f, ob⟩ := nr rfl
def ac_check_next_8 : AC := .cond (.t 14) ac_check_next_6 ac_check_next_7
theorem u_check_next_8 {P bb Q f ob} : AWP P bb ac_check_next_8 Q ⟨f, ob⟩ = AWP P bb (.cond (.t 14) ac_check_next_6 ac_check_next_7) Q ⟨f, ob⟩ := nr rfl
def ac_check_next_9 : AC := .seq ac_check_next_5 ac_check_next_8
theorem u_check_next_9 {P bb Q f ob} : AWP P bb ac_check_next_9 Q ⟨f, ob⟩ = AWP P bb (.seq ac_check_next_5 ac_check_next_8) Q ⟨f, ob⟩ := nr rfl
def ac_check_next_10 : AC := .block 1 ac_check_next_9
theorem u_check_next_10 {P bb Q f ob} : AWP P bb ac_check_next_10 Q ⟨f, ob⟩ = AWP P bb (.block 1 ac_check_next_9) Q ⟨f, ob⟩ := nr rfl
def ac_check_next_11 : AC := .reg [⟨(some 20), .bin .add (.t 10) (.k (.int .i64 1)), none, none, [], none⟩,
    ⟨(some 10), .mv (.t 20), none, none, [], none⟩]
theorem u_check_next_11 {P bb Q f ob} : AWP P bb ac_check_next_11 Q ⟨f, ob⟩ = AWP P bb (.reg [⟨(some 20), .bin .add (.t 10) (.k (.int .i64 1)), none, none, [], none⟩,
    ⟨(some 10), .mv (.t 20), none, none, [], none⟩]) Q ⟨f, ob⟩ := nr rfl
def ac_check_next_12 : AC := .seq ac_check_next_10 ac_check_next_11
theorem u_check_next_12 {P bb Q f ob} : AWP P bb ac_check_next_12 Q ⟨f, ob⟩ = AWP P bb (.seq ac_check_next_10 ac_check_next_11) Q ⟨f, ob⟩ := nr rfl
def ac_check_next_13 : AC := .seq ac_check_next_4 ac_check_next_12
theorem u_check_next_13 {P bb Q f ob} : AWP P bb ac_check_next_13 Q ⟨f, ob⟩ = AWP P bb (.seq ac_check_next_4 ac_check_next_12) Q ⟨f, ob⟩ := nr rfl
def ac_check_next_14 : AC := .seq ac_check_next_3 ac_check_next_13
theorem u_check_next_14 {P bb Q f ob} : AWP P bb ac_check_next_14 Q ⟨f, ob⟩ = AWP P bb (.seq ac_check_next_3 ac_check_next_13) Q ⟨f, ob⟩ := nr rfl
def ac_check_next_15 : AC := .loop [0, 10] 0 ac_check_next_14
theorem u_check_next_15 {P bb Q f ob} : AWP P bb ac_check_next_15 Q ⟨f, ob⟩ = AWP P bb (.loop [0, 10] 0 ac_check_next_14) Q ⟨f, ob⟩ := nr rfl
def ac_check_next_16 : AC := .block 0 ac_check_next_15
theorem u_check_next_16 {P bb Q f ob} : AWP P bb ac_check_next_16 Q ⟨f, ob⟩ = AWP P bb (.block 0 ac_check_next_15) Q ⟨f, ob⟩ := nr rfl
def ac_check_next_17 : AC := .seq ac_check_next_2 ac_check_next_16
theorem u_check_next_17 {P bb Q f ob} : AWP P bb ac_check_next_17 Q ⟨f, ob⟩ = AWP P bb (.seq ac_check_next_2 ac_check_next_16) Q ⟨f, ob⟩ := nr rfl
def ac_check_next_18 : AC := .reg [⟨(some 21), .mv (.t 0), none, none, [], none⟩,
    ⟨(some 4), .mv (.t 21), none, none, [], none⟩]
theorem u_check_next_18 {P bb Q f ob} : AWP P bb ac_check_next_18 Q ⟨f, ob⟩ = AWP P bb (.reg [⟨(some 21), .mv (.t 0), none, none, [], none⟩,
    ⟨(some 4), .mv (.t 21), none, none, [], none⟩]) Q ⟨f, ob⟩ := nr rfl
def ac_check_next_19 : AC := .seq ac_check_next_18 .ret
theorem u_check_next_19 {P bb Q f ob} : AWP P bb ac_check_next_19 Q ⟨f, ob⟩ = AWP P bb (.seq ac_check_next_18 .ret) Q ⟨f, ob⟩ := nr rfl
def ac_check_next_20 : AC := .seq ac_check_next_17 ac_check_next_19
theorem u_check_next_20 {P bb Q f ob} : AWP P bb ac_check_next_20 Q ⟨f, ob⟩ = AWP P bb (.seq ac_check_next_17 ac_check_next_19) Q ⟨f, ob⟩ := nr rfl
def ac_check_next_21 : AC := .seq ac_check_next_1 ac_check_next_20
theorem u_check_next_21 {P bb Q f ob} : AWP P bb ac_check_next_21 Q ⟨f, ob⟩ = AWP P bb (.seq ac_check_next_1 ac_check_next_20) Q ⟨f, ob⟩ := nr rfl
def ac_check_next_22 : AC := .seq ac_check_next_0 ac_check_next_21
theorem u_check_next_22 {P bb Q f ob} : AWP P bb ac_check_next_22 Q ⟨f, ob⟩ = AWP P bb (.seq ac_check_next_0 ac_check_next_21) Q ⟨f, ob⟩ := nr rfl
def ac_check_next : AC := ac_check_next_22
theorem comp_check_next : compF Try.prog [] (drawR Try.prog [] Try.f20.ntmps) [([0, 10], 0)] 2 Try.f20 = some (ac_check_next, [.t 4]) := by kernel_rfl

end Go.Proofs.Ytddofkbkjllcbaa.Aw
