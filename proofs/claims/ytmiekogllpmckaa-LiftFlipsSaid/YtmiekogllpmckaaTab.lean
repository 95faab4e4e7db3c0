/-
  The abstract forms of this seat's functions, by program, and that they are the ones that the model's code has. Conditions: none.
-/
import Derived.Test.YtmiekogllpmckaaRows
import Derived.Test.YtmiekogllpmckaaSxP
namespace Go.Proofs.Ytmiekogllpmckaa
open Go Go.Sx
set_option maxRecDepth 100000
/-! calliope/calliopelaw05.LiftFlips -/
def r3_0 : Reg := ⟨[⟨(some 2), (.mv (.c (.bool false))), none, 0⟩], [], 0, false, []⟩
def r3_1 : Reg := ⟨[⟨(some 5), (.mv (.t 0)), none, 0⟩, ⟨(some 6), (.call 4 [(.t 5)]), none, 0⟩, ⟨(some 0), (.mv (.t 6)), none, 0⟩], [5, 6], 0, true, []⟩
def r3_2 : Reg := ⟨[⟨(some 7), (.mv (.t 0)), none, 0⟩, ⟨(some 8), (.call 5 [(.t 7)]), none, 0⟩, ⟨(some 3), (.mv (.t 8)), none, 0⟩], [7, 8], 0, true, []⟩
def r3_3 : Reg := ⟨[⟨(some 9), (.mv (.t 3)), none, 0⟩, ⟨(some 10), (.len .slice (.t 9)), none, 0⟩, ⟨(some 11), (.mv (.t 0)), none, 0⟩, ⟨(some 12), (.len .slice (.t 11)), none, 0⟩, ⟨(some 13), (.bin .neq (.int .i64) (.t 10) (.t 12)), none, 0⟩], [9, 10, 11, 12], 0, false, []⟩
def r3_4 : Reg := ⟨[⟨(some 2), (.mv (.c (.bool false))), none, 0⟩], [], 0, false, []⟩
def r3_5 : Reg := ⟨[⟨(some 4), (.mv (.c (.int .i64 0))), none, 0⟩], [], 0, false, []⟩
def r3_6 : Reg := ⟨[⟨(some 14), (.mv (.t 4)), none, 0⟩, ⟨(some 15), (.mv (.t 0)), none, 0⟩, ⟨(some 16), (.len .slice (.t 15)), none, 0⟩, ⟨(some 17), (.bin .lss (.int .i64) (.t 14) (.t 16)), none, 0⟩], [14, 15, 16], 0, false, []⟩
def r3_7 : Reg := ⟨[⟨(some 20), (.mv (.t 3)), none, 0⟩, ⟨(some 21), (.mv (.t 4)), none, 0⟩, ⟨(some 22), (.idxS 1 (.t 20) (.t 21)), none, 0⟩, ⟨(some 23), (.load none (.t 22)), none, 0⟩, ⟨(some 24), (.mv (.t 0)), none, 0⟩, ⟨(some 25), (.mv (.t 0)), none, 0⟩, ⟨(some 26), (.len .slice (.t 25)), none, 0⟩, ⟨(some 27), (.bin .sub (.int .i64) (.t 26) (.c (.int .i64 1))), none, 0⟩, ⟨(some 28), (.mv (.t 4)), none, 0⟩, ⟨(some 29), (.bin .sub (.int .i64) (.t 27) (.t 28)), none, 0⟩, ⟨(some 30), (.idxS 1 (.t 24) (.t 29)), none, 0⟩, ⟨(some 31), (.load none (.t 30)), none, 0⟩, ⟨(some 32), (.bin .neq (.int .i64) (.t 23) (.t 31)), none, 0⟩], [20, 21, 22, 23, 24, 25, 26, 27, 28, 29, 30, 31], 0, false, []⟩
def r3_8 : Reg := ⟨[⟨(some 2), (.mv (.c (.bool false))), none, 0⟩], [], 0, false, []⟩
def r3_9 : Reg := ⟨[⟨(some 18), (.mv (.t 4)), none, 0⟩, ⟨(some 19), (.bin .add (.int .i64) (.t 18) (.c (.int .i64 1))), none, 0⟩, ⟨(some 4), (.mv (.t 19)), none, 0⟩], [18, 19], 0, false, []⟩
def l3_10 : SC := (.seq (.seq (.seq (.reg r3_6) (.cond (.t 17) .skip (.seq (.kill [0, 2, 3, 4, 13, 17, 32]) (.exit 0)))) (.seq (.block 1 (.seq (.reg r3_7) (.cond (.t 32) (.seq (.reg r3_8) (.seq (.kill [0, 3, 4, 13, 17, 32]) .ret)) .skip))) (.reg r3_9))) (.kill [2, 13, 17, 32]))
def r3_11 : Reg := ⟨[⟨(some 33), (.callP 6 []), none, 0⟩, ⟨(some 2), (.mv (.t 33)), none, 0⟩], [33], 0, false, []⟩
def sf3 : SFn := { np := 1, vars := [0, 2, 3, 4, 13, 17, 32], body := (.seq (.reg r3_0) (.seq (.reg r3_1) (.seq (.reg r3_2) (.seq (.seq (.reg r3_3) (.cond (.t 13) (.seq (.reg r3_4) (.seq (.kill [0, 3, 4, 13, 17, 32]) .ret)) .skip)) (.seq (.seq (.reg r3_5) (.block 0 (.seq (.kill [2, 13, 17, 32]) (.loop l3_10)))) (.seq (.reg r3_11) (.seq (.kill [0, 3, 4, 13, 17, 32]) .ret))))))), res := [(.tmp 2)] }
/-! calliope/calliopelaw05.cut -/
def r4_0 : Reg := ⟨[⟨(some 2), (.mv (.c .nils)), none, 0⟩], [], 0, false, []⟩
def r4_1 : Reg := ⟨[⟨(some 3), (.mv (.c .nils)), none, 0⟩], [], 0, false, []⟩
def r4_2 : Reg := ⟨[⟨(some 4), (.mv (.c (.int .i64 0))), none, 0⟩], [], 0, false, []⟩
def r4_3 : Reg := ⟨[⟨(some 6), (.mv (.t 4)), none, 0⟩, ⟨(some 7), (.mv (.t 0)), none, 0⟩, ⟨(some 8), (.len .slice (.t 7)), none, 0⟩, ⟨(some 9), (.bin .lss (.int .i64) (.t 6) (.t 8)), none, 0⟩, ⟨(some 10), (.mv (.t 9)), none, 0⟩, ⟨(some 11), (.mv (.t 4)), (some (10, true)), 0⟩, ⟨(some 12), (.bin .lss (.int .i64) (.t 11) (.c (.int .i64 20))), (some (10, true)), 0⟩, ⟨(some 13), (.pick (.t 10) (.t 12) (.c (.bool false))), none, 0⟩], [6, 7, 8, 9, 10, 11, 12], 0, false, []⟩
def r4_4 : Reg := ⟨[⟨(some 16), (.mv (.t 0)), none, 0⟩, ⟨(some 17), (.mv (.t 4)), none, 0⟩, ⟨(some 18), (.idxS 1 (.t 16) (.t 17)), none, 0⟩, ⟨(some 19), (.load none (.t 18)), none, 0⟩, ⟨(some 5), (.mv (.t 19)), none, 0⟩], [16, 17, 18, 19], 0, false, []⟩
def r4_5 : Reg := ⟨[⟨(some 20), (.mv (.t 5)), none, 0⟩, ⟨(some 21), (.bin .gtr (.int .i64) (.t 20) (.c (.int .i64 1099511627776))), none, 0⟩], [20], 0, false, []⟩
def r4_6 : Reg := ⟨[⟨(some 5), (.mv (.c (.int .i64 1099511627776))), none, 0⟩], [], 0, false, []⟩
def r4_7 : Reg := ⟨[⟨(some 22), (.mv (.t 5)), none, 0⟩, ⟨(some 23), (.bin .lss (.int .i64) (.t 22) (.c (.int .i64 (-1099511627776)))), none, 0⟩], [22], 0, false, []⟩
def r4_8 : Reg := ⟨[⟨(some 5), (.mv (.c (.int .i64 (-1099511627776)))), none, 0⟩], [], 0, false, []⟩
def r4_9 : Reg := ⟨[⟨(some 24), (.mv (.t 3)), none, 0⟩, ⟨(some 25), (.mv (.t 5)), none, 0⟩, ⟨(some 26), (.bslice 1 1 (.int .i64 0) [(0, 1, (.t 25))]), none, 0⟩, ⟨(some 27), (.app 1 8 (.t 24) (.t 26)), none, 1⟩, ⟨(some 3), (.mv (.t 27)), none, 2⟩], [24, 25, 26, 27], 2, true, []⟩
def r4_10 : Reg := ⟨[⟨(some 14), (.mv (.t 4)), none, 0⟩, ⟨(some 15), (.bin .add (.int .i64) (.t 14) (.c (.int .i64 1))), none, 0⟩, ⟨(some 4), (.mv (.t 15)), none, 0⟩], [14, 15], 0, false, []⟩
def l4_11 : SC := (.seq (.seq (.seq (.reg r4_3) (.cond (.t 13) .skip (.seq (.kill [0, 2, 4, 5, 13, 21, 23]) (.exit 0)))) (.seq (.block 1 (.seq (.reg r4_4) (.seq (.seq (.reg r4_5) (.cond (.t 21) (.reg r4_6) .skip)) (.seq (.seq (.reg r4_7) (.cond (.t 23) (.reg r4_8) .skip)) (.reg r4_9))))) (.reg r4_10))) (.kill [2, 5, 13, 21, 23]))
def r4_12 : Reg := ⟨[⟨(some 28), (.mv (.t 3)), none, 0⟩, ⟨(some 2), (.mv (.t 28)), none, 0⟩], [28], 0, false, []⟩
def sf4 : SFn := { np := 1, vars := [0, 2, 3, 4, 5, 13, 21, 23], body := (.seq (.reg r4_0) (.seq (.reg r4_1) (.seq (.seq (.reg r4_2) (.block 0 (.seq (.kill [2, 5, 13, 21, 23]) (.loop l4_11)))) (.seq (.reg r4_12) (.seq (.kill [0, 3, 4, 5, 13, 21, 23]) .ret))))), res := [(.tmp 2)] }
/-! calliope/lift.Flip -/
def r5_0 : Reg := ⟨[⟨(some 2), (.mv (.c .nils)), none, 0⟩], [], 0, false, []⟩
def r5_1 : Reg := ⟨[⟨(some 6), (.mv (.t 0)), none, 0⟩, ⟨(some 7), (.len .slice (.t 6)), none, 0⟩, ⟨(some 8), (.mkslice 1 8 (.int .i64 0) (.t 7) (.t 7)), none, 0⟩, ⟨(some 3), (.mv (.t 8)), none, 1⟩], [6, 7, 8], 1, true, []⟩
def r5_2 : Reg := ⟨[⟨(some 9), (.mv (.t 0)), none, 0⟩, ⟨(some 10), (.len .slice (.t 9)), none, 0⟩, ⟨(some 11), (.mv (.c (.int .i64 0))), none, 0⟩], [], 0, false, []⟩
def r5_3 : Reg := ⟨[⟨(some 12), (.bin .lss (.int .i64) (.t 11) (.t 10)), none, 0⟩], [], 0, false, []⟩
def r5_4 : Reg := ⟨[⟨(some 13), (.mv (.t 11)), none, 0⟩, ⟨(some 14), (.idxS 1 (.t 9) (.t 11)), none, 0⟩, ⟨(some 15), (.load none (.t 14)), none, 0⟩, ⟨(some 4), (.mv (.t 13)), none, 0⟩, ⟨(some 5), (.mv (.t 15)), none, 0⟩], [13, 14, 15], 0, false, []⟩
def r5_5 : Reg := ⟨[⟨(some 16), (.mv (.t 3)), none, 0⟩, ⟨(some 17), (.mv (.t 0)), none, 0⟩, ⟨(some 18), (.len .slice (.t 17)), none, 0⟩, ⟨(some 19), (.bin .sub (.int .i64) (.t 18) (.c (.int .i64 1))), none, 0⟩, ⟨(some 20), (.mv (.t 4)), none, 0⟩, ⟨(some 21), (.bin .sub (.int .i64) (.t 19) (.t 20)), none, 0⟩, ⟨(some 22), (.mv (.t 5)), none, 0⟩, ⟨(some 23), (.idxS 1 (.t 16) (.t 21)), none, 0⟩, ⟨none, (.store 1 (.t 23) (.t 22)), none, 0⟩], [16, 17, 18, 19, 20, 21, 22, 23], 0, false, []⟩
def r5_6 : Reg := ⟨[⟨(some 24), (.bin .add (.int .i64) (.t 11) (.c (.int .i64 1))), none, 0⟩, ⟨(some 11), (.mv (.t 24)), none, 0⟩], [24], 0, false, []⟩
def l5_7 : SC := (.seq (.seq (.reg r5_3) (.seq (.cond (.t 12) .skip (.seq (.kill [0, 2, 4, 5, 9, 10, 11, 12]) (.exit 0))) (.seq (.block 1 (.seq (.reg r5_4) (.reg r5_5))) (.reg r5_6)))) (.kill [2, 4, 5, 12]))
def r5_8 : Reg := ⟨[⟨(some 25), (.mv (.t 3)), none, 0⟩, ⟨(some 2), (.mv (.t 25)), none, 0⟩], [25], 0, false, []⟩
def sf5 : SFn := { np := 1, vars := [0, 2, 3, 4, 5, 9, 10, 11, 12], body := (.seq (.reg r5_0) (.seq (.reg r5_1) (.seq (.seq (.reg r5_2) (.block 0 (.seq (.kill [2, 4, 5, 12]) (.loop l5_7)))) (.seq (.reg r5_8) (.seq (.kill [0, 3, 4, 5, 9, 10, 11, 12]) .ret))))), res := [(.tmp 2)] }
/-! calliope/calliopelaw05.awake -/
def r6_0 : Reg := ⟨[⟨(some 0), (.mv (.c (.bool false))), none, 0⟩], [], 0, false, []⟩
def r6_1 : Reg := ⟨[⟨(some 4), (.build (.ints .i64 [0, 0]) [(0, 1, (.c (.int .i64 512))), (1, 1, (.c (.int .i64 1023)))]), none, 0⟩, ⟨(some 5), (.callP 7 [(.c (.int .i64 1000)), (.c (.int .i64 0)), (.t 4)]), none, 0⟩, ⟨(some 3), (.mv (.t 5)), none, 0⟩, ⟨(some 6), (.extract (.t 3) 0), none, 0⟩, ⟨(some 7), (.extract (.t 3) 1), none, 0⟩, ⟨(some 1), (.mv (.t 6)), none, 0⟩, ⟨(some 2), (.mv (.t 7)), none, 0⟩], [4, 5, 3, 6, 7], 0, false, []⟩
def r6_2 : Reg := ⟨[⟨(some 8), (.mv (.t 1)), none, 0⟩, ⟨(some 9), (.bin .eql (.int .i64) (.t 8) (.c (.int .i64 998))), none, 0⟩, ⟨(some 10), (.mv (.t 9)), none, 0⟩, ⟨(some 11), (.mv (.t 2)), (some (10, true)), 0⟩, ⟨(some 12), (.bin .eql (.int .i64) (.t 11) (.c (.int .i64 (-62)))), (some (10, true)), 0⟩, ⟨(some 13), (.pick (.t 10) (.t 12) (.c (.bool false))), none, 0⟩, ⟨(some 0), (.mv (.t 13)), none, 0⟩], [8, 9, 10, 11, 12, 13], 0, false, []⟩
def sf6 : SFn := { np := 0, vars := [0, 1, 2], body := (.seq (.reg r6_0) (.seq (.reg r6_1) (.seq (.reg r6_2) (.seq (.kill [1, 2]) .ret)))), res := [(.tmp 0)] }
/-! calliope/lift.Turn -/
def r7_0 : Reg := ⟨[⟨(some 5), (.box (.t 2)), none, 0⟩, ⟨(some 6), (.mv (.c (.int .i64 0))), none, 1⟩, ⟨(some 7), (.mv (.c (.int .i64 0))), none, 1⟩], [], 1, true, []⟩
def r7_1 : Reg := ⟨[⟨(some 8), (.mv (.t 0)), none, 0⟩, ⟨(some 9), (.fieldAddr 0 (.t 5)), none, 0⟩, ⟨(some 10), (.load none (.t 9)), none, 0⟩, ⟨(some 11), (.mv (.t 1)), none, 0⟩, ⟨(some 12), (.callP 8 [(.t 10), (.t 11)]), none, 0⟩, ⟨(some 13), (.bin .add (.int .i64) (.t 8) (.t 12)), none, 0⟩, ⟨(some 0), (.mv (.t 13)), none, 0⟩], [8, 9, 10, 11, 12, 13], 0, false, []⟩
def r7_2 : Reg := ⟨[⟨(some 14), (.mv (.t 1)), none, 0⟩, ⟨(some 15), (.fieldAddr 1 (.t 5)), none, 0⟩, ⟨(some 16), (.load none (.t 15)), none, 0⟩, ⟨(some 17), (.mv (.t 0)), none, 0⟩, ⟨(some 18), (.callP 8 [(.t 16), (.t 17)]), none, 0⟩, ⟨(some 19), (.bin .sub (.int .i64) (.t 14) (.t 18)), none, 0⟩, ⟨(some 1), (.mv (.t 19)), none, 0⟩], [14, 15, 16, 17, 18, 19], 0, false, []⟩
def r7_3 : Reg := ⟨[⟨(some 20), (.mv (.t 0)), none, 0⟩, ⟨(some 21), (.fieldAddr 0 (.t 5)), none, 0⟩, ⟨(some 22), (.load none (.t 21)), none, 0⟩, ⟨(some 23), (.mv (.t 1)), none, 0⟩, ⟨(some 24), (.callP 8 [(.t 22), (.t 23)]), none, 0⟩, ⟨(some 25), (.bin .add (.int .i64) (.t 20) (.t 24)), none, 0⟩, ⟨(some 0), (.mv (.t 25)), none, 0⟩], [20, 21, 22, 23, 24, 25], 0, false, []⟩
def r7_4 : Reg := ⟨[⟨(some 26), (.mv (.t 0)), none, 0⟩, ⟨(some 27), (.mv (.t 1)), none, 0⟩, ⟨(some 6), (.mv (.t 26)), none, 0⟩, ⟨(some 7), (.mv (.t 27)), none, 0⟩], [26, 27], 0, false, []⟩
def sf7 : SFn := { np := 3, vars := [0, 1, 2, 5, 6, 7], body := (.seq (.reg r7_0) (.seq (.reg r7_1) (.seq (.reg r7_2) (.seq (.reg r7_3) (.seq (.reg r7_4) (.seq (.kill [0, 1, 2, 5]) .ret)))))), res := [(.tmp 6), (.tmp 7)] }
/-! calliope/lift.part -/
def r8_0 : Reg := ⟨[⟨(some 4), (.mv (.c (.int .i64 0))), none, 0⟩], [], 0, false, []⟩
def r8_1 : Reg := ⟨[⟨(some 5), (.mv (.t 0)), none, 0⟩, ⟨(some 6), (.mv (.t 1)), none, 0⟩, ⟨(some 7), (.bin .mul (.int .i64) (.t 5) (.t 6)), none, 0⟩, ⟨(some 8), (.callP 9 [(.t 7), (.c (.int .i64 14))]), none, 0⟩, ⟨(some 4), (.mv (.t 8)), none, 0⟩], [5, 6, 7, 8], 0, false, []⟩
def sf8 : SFn := { np := 2, vars := [0, 1, 4], body := (.seq (.reg r8_0) (.seq (.reg r8_1) (.seq (.kill [0, 1]) .ret))), res := [(.tmp 4)] }
/-! calliope/num.Round -/
def r9_0 : Reg := ⟨[⟨(some 4), (.mv (.c (.int .i64 0))), none, 0⟩], [], 0, false, []⟩
def r9_1 : Reg := ⟨[⟨(some 6), (.mv (.t 1)), none, 0⟩, ⟨(some 7), (.bin .lss (.int .i64) (.t 6) (.c (.int .i64 0))), none, 0⟩, ⟨(some 8), (.mv (.t 7)), none, 0⟩, ⟨(some 9), (.mv (.t 1)), (some (8, false)), 0⟩, ⟨(some 10), (.bin .gtr (.int .i64) (.t 9) (.c (.int .i64 62))), (some (8, false)), 0⟩, ⟨(some 11), (.pick (.t 8) (.c (.bool true)) (.t 10)), none, 0⟩, ⟨(some 5), (.mv (.t 11)), none, 0⟩], [6, 7, 8, 9, 10, 11], 0, false, []⟩
def r9_2 : Reg := ⟨[⟨(some 4), (.mv (.c (.int .i64 0))), none, 0⟩], [], 0, false, []⟩
def r9_3 : Reg := ⟨[⟨(some 13), (.mv (.t 1)), none, 0⟩, ⟨(some 14), (.bin .eql (.int .i64) (.t 13) (.c (.int .i64 0))), none, 0⟩, ⟨(some 12), (.mv (.t 14)), none, 0⟩], [13, 14], 0, false, []⟩
def r9_4 : Reg := ⟨[⟨(some 15), (.mv (.t 0)), none, 0⟩, ⟨(some 4), (.mv (.t 15)), none, 0⟩], [15], 0, false, []⟩
def r9_5 : Reg := ⟨[⟨(some 16), (.mv (.t 0)), none, 0⟩, ⟨(some 17), (.mv (.t 1)), none, 0⟩, ⟨(some 18), (.bin .shr (.int .i64) (.t 16) (.t 17)), none, 0⟩, ⟨(some 19), (.mv (.t 0)), none, 0⟩, ⟨(some 20), (.mv (.t 1)), none, 0⟩, ⟨(some 21), (.bin .sub (.int .i64) (.t 20) (.c (.int .i64 1))), none, 0⟩, ⟨(some 22), (.bin .shr (.int .i64) (.t 19) (.t 21)), none, 0⟩, ⟨(some 23), (.bin .and (.int .i64) (.t 22) (.c (.int .i64 1))), none, 0⟩, ⟨(some 24), (.bin .add (.int .i64) (.t 18) (.t 23)), none, 0⟩, ⟨(some 4), (.mv (.t 24)), none, 0⟩], [16, 17, 18, 19, 20, 21, 22, 23, 24], 0, false, []⟩
def sf9 : SFn := { np := 2, vars := [0, 1, 4, 5, 12], body := (.seq (.reg r9_0) (.seq (.block 0 (.seq (.reg r9_1) (.cond (.t 5) (.seq (.reg r9_2) (.seq (.kill [0, 1, 5, 12]) .ret)) (.seq (.reg r9_3) (.cond (.t 12) (.seq (.reg r9_4) (.seq (.kill [0, 1, 5, 12]) .ret)) .skip))))) (.seq (.reg r9_5) (.seq (.kill [0, 1, 5, 12]) .ret)))), res := [(.tmp 4)] }
theorem c3 : cFn Try.prog 3 = some sf3 := by kernel_rfl
theorem k3 : callable Try.prog 3 = true := by kernel_rfl
theorem p3 : ∀ F, Try.prog.funcs[3]? = some F → F.params.size ≤ F.ntmps := fun F h => by rw [Try.func3] at h; cases h; exact of_decide_eq_true (by kernel_rfl)
theorem c4 : cFn Try.prog 4 = some sf4 := by kernel_rfl
theorem k4 : callable Try.prog 4 = true := by kernel_rfl
theorem p4 : ∀ F, Try.prog.funcs[4]? = some F → F.params.size ≤ F.ntmps := fun F h => by rw [Try.func4] at h; cases h; exact of_decide_eq_true (by kernel_rfl)
theorem c5 : cFn Try.prog 5 = some sf5 := by kernel_rfl
theorem k5 : callable Try.prog 5 = true := by kernel_rfl
theorem p5 : ∀ F, Try.prog.funcs[5]? = some F → F.params.size ≤ F.ntmps := fun F h => by rw [Try.func5] at h; cases h; exact of_decide_eq_true (by kernel_rfl)
theorem c6 : cFn Try.prog 6 = some sf6 := by kernel_rfl
theorem k6 : callable Try.prog 6 = true := by kernel_rfl
theorem p6 : ∀ F, Try.prog.funcs[6]? = some F → F.params.size ≤ F.ntmps := fun F h => by rw [Try.func6] at h; cases h; exact of_decide_eq_true (by kernel_rfl)
theorem c7 : cFn Try.prog 7 = some sf7 := by kernel_rfl
theorem k7 : callable Try.prog 7 = true := by kernel_rfl
theorem p7 : ∀ F, Try.prog.funcs[7]? = some F → F.params.size ≤ F.ntmps := fun F h => by rw [Try.func7] at h; cases h; exact of_decide_eq_true (by kernel_rfl)
theorem c8 : cFn Try.prog 8 = some sf8 := by kernel_rfl
theorem k8 : callable Try.prog 8 = true := by kernel_rfl
theorem p8 : ∀ F, Try.prog.funcs[8]? = some F → F.params.size ≤ F.ntmps := fun F h => by rw [Try.func8] at h; cases h; exact of_decide_eq_true (by kernel_rfl)
theorem c9 : cFn Try.prog 9 = some sf9 := by kernel_rfl
theorem k9 : callable Try.prog 9 = true := by kernel_rfl
theorem p9 : ∀ F, Try.prog.funcs[9]? = some F → F.params.size ≤ F.ntmps := fun F h => by rw [Try.func9] at h; cases h; exact of_decide_eq_true (by kernel_rfl)
def tab : FuncId → Option SFn := tabL [(3, sf3), (4, sf4), (5, sf5), (6, sf6), (7, sf7), (8, sf8), (9, sf9)]
theorem tabOk : TabOk Try.prog tab :=
  tabOk_cons c3 k3 p3 (tabOk_cons c4 k4 p4 (tabOk_cons c5 k5 p5 (tabOk_cons c6 k6 p6 (tabOk_cons c7 k7 p7 (tabOk_cons c8 k8 p8 (tabOk_cons c9 k9 p9 (tabOk_nil _)))))))
theorem t3 : tab 3 = some sf3 := rfl
theorem t4 : tab 4 = some sf4 := rfl
theorem t5 : tab 5 = some sf5 := rfl
theorem t6 : tab 6 = some sf6 := rfl
theorem t7 : tab 7 = some sf7 := rfl
theorem t8 : tab 8 = some sf8 := rfl
theorem t9 : tab 9 = some sf9 := rfl
end Go.Proofs.Ytmiekogllpmckaa
