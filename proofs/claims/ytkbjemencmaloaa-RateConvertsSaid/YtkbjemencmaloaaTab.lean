/-
  The abstract forms of this seat's functions, by program, and that they are the ones that the model's code has. Conditions: none.
-/
import Derived.Test.YtkbjemencmaloaaRows
import Derived.Test.YtkbjemencmaloaaSxP
namespace Go.Proofs.Ytkbjemencmaloaa
open Go Go.Sx
set_option maxRecDepth 100000
/-! calliope/calliopelaw42.RateSteps -/
def r3_0 : Reg := ⟨[⟨(some 8), (.mv (.c (.bool false))), none, 0⟩], [], 0, false, []⟩
def r3_1 : Reg := ⟨[⟨(some 9), (.mv (.t 0)), none, 0⟩, ⟨(some 10), (.mv (.t 1)), none, 0⟩, ⟨(some 11), (.callP 6 [(.t 9), (.t 10)]), none, 0⟩, ⟨(some 12), (.mv (.t 0)), none, 0⟩, ⟨(some 13), (.mv (.t 1)), none, 0⟩, ⟨(some 14), (.callP 7 [(.t 12), (.t 13)]), none, 0⟩, ⟨(some 15), (.bin .eql (.int .i64) (.t 11) (.t 14)), none, 0⟩, ⟨(some 16), (.mv (.t 15)), none, 0⟩, ⟨(some 17), (.mv (.t 2)), (some (16, true)), 0⟩, ⟨(some 18), (.mv (.t 3)), (some (16, true)), 0⟩, ⟨(some 19), (.callP 8 [(.t 17), (.t 18)]), (some (16, true)), 0⟩, ⟨(some 20), (.mv (.t 2)), (some (16, true)), 0⟩, ⟨(some 21), (.mv (.t 3)), (some (16, true)), 0⟩, ⟨(some 22), (.callP 9 [(.t 20), (.t 21)]), (some (16, true)), 0⟩, ⟨(some 23), (.bin .eql (.int .i64) (.t 19) (.t 22)), (some (16, true)), 0⟩, ⟨(some 24), (.pick (.t 16) (.t 23) (.c (.bool false))), none, 0⟩, ⟨(some 25), (.mv (.t 24)), none, 0⟩, ⟨(some 26), (.callP 10 []), (some (25, true)), 0⟩, ⟨(some 27), (.pick (.t 25) (.t 26) (.c (.bool false))), none, 0⟩, ⟨(some 8), (.mv (.t 27)), none, 0⟩], [9, 10, 11, 12, 13, 14, 15, 16, 17, 18, 19, 20, 21, 22, 23, 24, 25, 26, 27], 0, false, []⟩
def sf3 : SFn := { np := 4, vars := [0, 1, 2, 3, 8], body := (.seq (.reg r3_0) (.seq (.reg r3_1) (.seq (.kill [0, 1, 2, 3]) .ret))), res := [(.tmp 8)] }
/-! calliope/calliopelaw42.RateAts -/
def r4_0 : Reg := ⟨[⟨(some 4), (.mv (.c (.bool false))), none, 0⟩], [], 0, false, []⟩
def r4_1 : Reg := ⟨[⟨(some 5), (.mv (.t 0)), none, 0⟩, ⟨(some 6), (.call 11 [(.t 5)]), none, 0⟩, ⟨(some 0), (.mv (.t 6)), none, 0⟩], [5, 6], 0, true, []⟩
def r4_2 : Reg := ⟨[⟨(some 7), (.mv (.t 0)), none, 0⟩, ⟨(some 8), (.mv (.t 1)), none, 0⟩, ⟨(some 9), (.call 12 [(.t 7), (.t 8)]), none, 0⟩, ⟨(some 10), (.mv (.t 0)), none, 0⟩, ⟨(some 11), (.mv (.t 1)), none, 0⟩, ⟨(some 12), (.call 13 [(.t 10), (.t 11)]), none, 0⟩, ⟨(some 13), (.bin .eql (.int .i64) (.t 9) (.t 12)), none, 0⟩, ⟨(some 14), (.mv (.t 13)), none, 0⟩, ⟨(some 15), (.callP 10 []), (some (14, true)), 0⟩, ⟨(some 16), (.pick (.t 14) (.t 15) (.c (.bool false))), none, 0⟩, ⟨(some 4), (.mv (.t 16)), none, 0⟩], [7, 8, 9, 10, 11, 12, 13, 14, 15, 16], 0, true, []⟩
def sf4 : SFn := { np := 2, vars := [0, 1, 4], body := (.seq (.reg r4_0) (.seq (.reg r4_1) (.seq (.reg r4_2) (.seq (.kill [0, 1]) .ret)))), res := [(.tmp 4)] }
/-! calliope/calliopelaw42.RateConverts -/
def r5_0 : Reg := ⟨[⟨(some 6), (.mv (.c (.bool false))), none, 0⟩], [], 0, false, []⟩
def r5_1 : Reg := ⟨[⟨(some 12), (.mv (.t 0)), none, 0⟩, ⟨(some 13), (.call 11 [(.t 12)]), none, 0⟩, ⟨(some 0), (.mv (.t 13)), none, 0⟩], [12, 13], 0, true, []⟩
def r5_2 : Reg := ⟨[⟨(some 14), (.mv (.t 1)), none, 0⟩, ⟨(some 15), (.mv (.t 2)), none, 0⟩, ⟨(some 16), (.callP 7 [(.t 14), (.t 15)]), none, 0⟩, ⟨(some 7), (.mv (.t 16)), none, 0⟩], [14, 15, 16], 0, false, []⟩
def r5_3 : Reg := ⟨[⟨(some 17), (.mv (.t 0)), none, 0⟩, ⟨(some 18), (.len .slice (.t 17)), none, 0⟩, ⟨(some 19), (.mv (.t 7)), none, 0⟩, ⟨(some 20), (.callP 9 [(.t 18), (.t 19)]), none, 0⟩, ⟨(some 8), (.mv (.t 20)), none, 0⟩], [17, 18, 19, 20], 0, false, []⟩
def r5_4 : Reg := ⟨[⟨(some 21), (.mv (.t 8)), none, 0⟩, ⟨(some 22), (.bin .gtr (.int .i64) (.t 21) (.c (.int .i64 2000))), none, 0⟩, ⟨(some 23), (.mv (.t 22)), none, 0⟩, ⟨(some 24), (.mv (.t 8)), (some (23, true)), 0⟩, ⟨(some 25), (.bin .leq (.int .i64) (.t 24) (.c (.int .i64 1048576))), (some (23, true)), 0⟩, ⟨(some 26), (.pick (.t 23) (.t 25) (.c (.bool false))), none, 0⟩], [21, 22, 23, 24, 25], 0, false, []⟩
def r5_5 : Reg := ⟨[⟨(some 27), (.callP 10 []), none, 0⟩, ⟨(some 6), (.mv (.t 27)), none, 0⟩], [27], 0, false, []⟩
def r5_6 : Reg := ⟨[⟨(some 29), (.mv (.t 0)), none, 0⟩, ⟨(some 30), (.mv (.t 1)), none, 0⟩, ⟨(some 31), (.mv (.t 2)), none, 0⟩, ⟨(some 32), (.call 14 [(.t 29), (.t 30), (.t 31)]), none, 0⟩, ⟨(some 28), (.mv (.t 32)), none, 0⟩, ⟨(some 33), (.extract (.t 28) 0), none, 0⟩, ⟨(some 34), (.extract (.t 28) 1), none, 0⟩, ⟨(some 9), (.mv (.t 33)), none, 0⟩, ⟨(some 10), (.mv (.t 34)), none, 0⟩], [29, 30, 31, 32, 28, 33, 34], 0, true, []⟩
def r5_7 : Reg := ⟨[⟨(some 35), (.mv (.t 7)), none, 0⟩, ⟨(some 36), (.bin .eql (.int .i64) (.t 35) (.c (.int .i64 0))), none, 0⟩], [35], 0, false, []⟩
def r5_8 : Reg := ⟨[⟨(some 37), (.mv (.t 9)), none, 0⟩, ⟨(some 38), (.len .slice (.t 37)), none, 0⟩, ⟨(some 39), (.bin .eql (.int .i64) (.t 38) (.c (.int .i64 0))), none, 0⟩, ⟨(some 40), (.mv (.t 39)), none, 0⟩, ⟨(some 41), (.mv (.t 10)), (some (40, true)), 0⟩, ⟨(some 42), (.bin .eql (.int .i64) (.t 41) (.c (.int .i64 14))), (some (40, true)), 0⟩, ⟨(some 43), (.pick (.t 40) (.t 42) (.c (.bool false))), none, 0⟩, ⟨(some 44), (.mv (.t 43)), none, 0⟩, ⟨(some 45), (.callP 10 []), (some (44, true)), 0⟩, ⟨(some 46), (.pick (.t 44) (.t 45) (.c (.bool false))), none, 0⟩, ⟨(some 6), (.mv (.t 46)), none, 0⟩], [37, 38, 39, 40, 41, 42, 43, 44, 45, 46], 0, false, []⟩
def r5_9 : Reg := ⟨[⟨(some 47), (.mv (.t 8)), none, 0⟩, ⟨(some 48), (.bin .gtr (.int .i64) (.t 47) (.c (.int .i64 1048576))), none, 0⟩], [47], 0, false, []⟩
def r5_10 : Reg := ⟨[⟨(some 49), (.mv (.t 9)), none, 0⟩, ⟨(some 50), (.len .slice (.t 49)), none, 0⟩, ⟨(some 51), (.bin .eql (.int .i64) (.t 50) (.c (.int .i64 0))), none, 0⟩, ⟨(some 52), (.mv (.t 51)), none, 0⟩, ⟨(some 53), (.mv (.t 10)), (some (52, true)), 0⟩, ⟨(some 54), (.bin .eql (.int .i64) (.t 53) (.c (.int .i64 3))), (some (52, true)), 0⟩, ⟨(some 55), (.pick (.t 52) (.t 54) (.c (.bool false))), none, 0⟩, ⟨(some 56), (.mv (.t 55)), none, 0⟩, ⟨(some 57), (.callP 10 []), (some (56, true)), 0⟩, ⟨(some 58), (.pick (.t 56) (.t 57) (.c (.bool false))), none, 0⟩, ⟨(some 6), (.mv (.t 58)), none, 0⟩], [49, 50, 51, 52, 53, 54, 55, 56, 57, 58], 0, false, []⟩
def r5_11 : Reg := ⟨[⟨(some 59), (.mv (.t 10)), none, 0⟩, ⟨(some 60), (.bin .neq (.int .i64) (.t 59) (.c (.int .i64 0))), none, 0⟩, ⟨(some 61), (.mv (.t 60)), none, 0⟩, ⟨(some 62), (.mv (.t 9)), (some (61, false)), 0⟩, ⟨(some 63), (.len .slice (.t 62)), (some (61, false)), 0⟩, ⟨(some 64), (.mv (.t 8)), (some (61, false)), 0⟩, ⟨(some 65), (.bin .neq (.int .i64) (.t 63) (.t 64)), (some (61, false)), 0⟩, ⟨(some 66), (.pick (.t 61) (.c (.bool true)) (.t 65)), none, 0⟩], [59, 60, 61, 62, 63, 64, 65], 0, false, []⟩
def r5_12 : Reg := ⟨[⟨(some 6), (.mv (.c (.bool false))), none, 0⟩], [], 0, false, []⟩
def r5_13 : Reg := ⟨[⟨(some 11), (.mv (.c (.int .i64 0))), none, 0⟩], [], 0, false, []⟩
def r5_14 : Reg := ⟨[⟨(some 67), (.mv (.t 11)), none, 0⟩, ⟨(some 68), (.mv (.t 8)), none, 0⟩, ⟨(some 69), (.bin .lss (.int .i64) (.t 67) (.t 68)), none, 0⟩], [67, 68], 0, false, []⟩
def r5_15 : Reg := ⟨[⟨(some 72), (.mv (.t 9)), none, 0⟩, ⟨(some 73), (.mv (.t 11)), none, 0⟩, ⟨(some 74), (.idxS 1 (.t 72) (.t 73)), none, 0⟩, ⟨(some 75), (.load none (.t 74)), none, 0⟩, ⟨(some 76), (.mv (.t 0)), none, 0⟩, ⟨(some 77), (.mv (.t 11)), none, 0⟩, ⟨(some 78), (.mv (.t 7)), none, 0⟩, ⟨(some 79), (.bin .mul (.int .i64) (.t 77) (.t 78)), none, 0⟩, ⟨(some 80), (.call 13 [(.t 76), (.t 79)]), none, 0⟩, ⟨(some 81), (.bin .neq (.int .i64) (.t 75) (.t 80)), none, 0⟩, ⟨(some 82), (.mv (.t 81)), none, 0⟩, ⟨(some 83), (.mv (.t 1)), (some (82, false)), 0⟩, ⟨(some 84), (.mv (.t 2)), (some (82, false)), 0⟩, ⟨(some 85), (.bin .eql (.int .i64) (.t 83) (.t 84)), (some (82, false)), 0⟩, ⟨(some 86), (.mv (.t 85)), (some (82, false)), 0⟩, ⟨(some 87), (.mv (.t 11)), (some (86, true)), 0⟩, ⟨(some 88), (.mv (.t 0)), (some (86, true)), 0⟩, ⟨(some 89), (.len .slice (.t 88)), (some (86, true)), 0⟩, ⟨(some 90), (.bin .geq (.int .i64) (.t 87) (.t 89)), (some (86, true)), 0⟩, ⟨(some 91), (.mv (.t 90)), (some (86, true)), 0⟩, ⟨(some 92), (.mv (.t 9)), (some (91, false)), 0⟩, ⟨(some 93), (.mv (.t 11)), (some (91, false)), 0⟩, ⟨(some 94), (.idxS 1 (.t 92) (.t 93)), (some (91, false)), 0⟩, ⟨(some 95), (.load none (.t 94)), (some (91, false)), 0⟩, ⟨(some 96), (.mv (.t 0)), (some (91, false)), 0⟩, ⟨(some 97), (.mv (.t 11)), (some (91, false)), 0⟩, ⟨(some 98), (.idxS 1 (.t 96) (.t 97)), (some (91, false)), 0⟩, ⟨(some 99), (.load none (.t 98)), (some (91, false)), 0⟩, ⟨(some 100), (.callP 15 [(.t 99)]), (some (91, false)), 0⟩, ⟨(some 101), (.bin .neq (.int .i64) (.t 95) (.t 100)), (some (91, false)), 0⟩, ⟨(some 102), (.pick (.t 91) (.c (.bool true)) (.t 101)), (some (86, true)), 0⟩, ⟨(some 103), (.pick (.t 86) (.t 102) (.c (.bool false))), (some (82, false)), 0⟩, ⟨(some 104), (.pick (.t 82) (.c (.bool true)) (.t 103)), none, 0⟩], [72, 73, 74, 75, 76, 77, 78, 79, 80, 81, 82, 83, 84, 85, 86, 87, 88, 89, 90, 91, 92, 93, 94, 95, 96, 97, 98, 99, 100, 101, 102, 103], 0, true, [(3, 8)]⟩
def r5_16 : Reg := ⟨[⟨(some 6), (.mv (.c (.bool false))), none, 0⟩], [], 0, false, []⟩
def r5_17 : Reg := ⟨[⟨(some 70), (.mv (.t 11)), none, 0⟩, ⟨(some 71), (.bin .add (.int .i64) (.t 70) (.c (.int .i64 1))), none, 0⟩, ⟨(some 11), (.mv (.t 71)), none, 0⟩], [70, 71], 0, false, []⟩
def l5_18 : SC := (.seq (.seq (.seq (.reg r5_14) (.cond (.t 69) .skip (.seq (.kill [0, 1, 2, 6, 7, 8, 9, 10, 11, 26, 36, 48, 66, 69, 104]) (.exit 0)))) (.seq (.block 1 (.seq (.reg r5_15) (.cond (.t 104) (.seq (.reg r5_16) (.seq (.kill [0, 1, 2, 7, 8, 9, 10, 11, 26, 36, 48, 66, 69, 104]) .ret)) .skip))) (.reg r5_17))) (.kill [6, 10, 26, 36, 48, 66, 69, 104]))
def r5_19 : Reg := ⟨[⟨(some 105), (.callP 10 []), none, 0⟩, ⟨(some 6), (.mv (.t 105)), none, 0⟩], [105], 0, false, []⟩
def sf5 : SFn := { np := 3, vars := [0, 1, 2, 6, 7, 8, 9, 10, 11, 26, 36, 48, 66, 69, 104], body := (.seq (.reg r5_0) (.seq (.reg r5_1) (.seq (.reg r5_2) (.seq (.reg r5_3) (.seq (.seq (.reg r5_4) (.cond (.t 26) (.seq (.reg r5_5) (.seq (.kill [0, 1, 2, 7, 8, 9, 10, 11, 26, 36, 48, 66, 69, 104]) .ret)) .skip)) (.seq (.reg r5_6) (.seq (.seq (.reg r5_7) (.cond (.t 36) (.seq (.reg r5_8) (.seq (.kill [0, 1, 2, 7, 8, 9, 10, 11, 26, 36, 48, 66, 69, 104]) .ret)) .skip)) (.seq (.seq (.reg r5_9) (.cond (.t 48) (.seq (.reg r5_10) (.seq (.kill [0, 1, 2, 7, 8, 9, 10, 11, 26, 36, 48, 66, 69, 104]) .ret)) .skip)) (.seq (.seq (.reg r5_11) (.cond (.t 66) (.seq (.reg r5_12) (.seq (.kill [0, 1, 2, 7, 8, 9, 10, 11, 26, 36, 48, 66, 69, 104]) .ret)) .skip)) (.seq (.seq (.reg r5_13) (.block 0 (.seq (.kill [6, 10, 26, 36, 48, 66, 69, 104]) (.loop l5_18)))) (.seq (.reg r5_19) (.seq (.kill [0, 1, 2, 7, 8, 9, 10, 11, 26, 36, 48, 66, 69, 104]) .ret)))))))))))), res := [(.tmp 6)] }
/-! calliope/rate.Step -/
def r6_0 : Reg := ⟨[⟨(some 4), (.mv (.c (.int .i64 0))), none, 0⟩], [], 0, false, []⟩
def r6_1 : Reg := ⟨[⟨(some 6), (.mv (.t 0)), none, 0⟩, ⟨(some 7), (.bin .lss (.int .i64) (.t 6) (.c (.int .i64 1))), none, 0⟩, ⟨(some 8), (.mv (.t 7)), none, 0⟩, ⟨(some 9), (.mv (.t 0)), (some (8, false)), 0⟩, ⟨(some 10), (.bin .gtr (.int .i64) (.t 9) (.c (.int .i64 192000))), (some (8, false)), 0⟩, ⟨(some 11), (.pick (.t 8) (.c (.bool true)) (.t 10)), none, 0⟩, ⟨(some 12), (.mv (.t 11)), none, 0⟩, ⟨(some 13), (.mv (.t 1)), (some (12, false)), 0⟩, ⟨(some 14), (.bin .lss (.int .i64) (.t 13) (.c (.int .i64 1))), (some (12, false)), 0⟩, ⟨(some 15), (.pick (.t 12) (.c (.bool true)) (.t 14)), none, 0⟩, ⟨(some 16), (.mv (.t 15)), none, 0⟩, ⟨(some 17), (.mv (.t 1)), (some (16, false)), 0⟩, ⟨(some 18), (.bin .gtr (.int .i64) (.t 17) (.c (.int .i64 192000))), (some (16, false)), 0⟩, ⟨(some 19), (.pick (.t 16) (.c (.bool true)) (.t 18)), none, 0⟩], [6, 7, 8, 9, 10, 11, 12, 13, 14, 15, 16, 17, 18], 0, false, []⟩
def r6_2 : Reg := ⟨[⟨(some 4), (.mv (.c (.int .i64 0))), none, 0⟩], [], 0, false, []⟩
def r6_3 : Reg := ⟨[⟨(some 20), (.mv (.t 0)), none, 0⟩, ⟨(some 21), (.bin .shl (.int .i64) (.t 20) (.c (.int .u64 32))), none, 0⟩, ⟨(some 22), (.mv (.t 1)), none, 0⟩, ⟨(some 23), (.bin .quo (.int .i64) (.t 21) (.t 22)), none, 0⟩, ⟨(some 5), (.mv (.t 23)), none, 0⟩], [20, 21, 22, 23], 0, false, []⟩
def r6_4 : Reg := ⟨[⟨(some 24), (.mv (.t 5)), none, 0⟩, ⟨(some 25), (.bin .lss (.int .i64) (.t 24) (.c (.int .i64 1))), none, 0⟩, ⟨(some 26), (.mv (.t 25)), none, 0⟩, ⟨(some 27), (.mv (.t 5)), (some (26, false)), 0⟩, ⟨(some 28), (.bin .gtr (.int .i64) (.t 27) (.c (.int .i64 34359738368))), (some (26, false)), 0⟩, ⟨(some 29), (.pick (.t 26) (.c (.bool true)) (.t 28)), none, 0⟩], [24, 25, 26, 27, 28], 0, false, []⟩
def r6_5 : Reg := ⟨[⟨(some 4), (.mv (.c (.int .i64 0))), none, 0⟩], [], 0, false, []⟩
def r6_6 : Reg := ⟨[⟨(some 30), (.mv (.t 5)), none, 0⟩, ⟨(some 4), (.mv (.t 30)), none, 0⟩], [30], 0, false, []⟩
def sf6 : SFn := { np := 2, vars := [0, 1, 4, 5, 19, 29], body := (.seq (.reg r6_0) (.seq (.seq (.reg r6_1) (.cond (.t 19) (.seq (.reg r6_2) (.seq (.kill [0, 1, 5, 19, 29]) .ret)) .skip)) (.seq (.reg r6_3) (.seq (.seq (.reg r6_4) (.cond (.t 29) (.seq (.reg r6_5) (.seq (.kill [0, 1, 5, 19, 29]) .ret)) .skip)) (.seq (.reg r6_6) (.seq (.kill [0, 1, 5, 19, 29]) .ret)))))), res := [(.tmp 4)] }
/-! calliope/calliopelaw42.step -/
def r7_0 : Reg := ⟨[⟨(some 4), (.mv (.c (.int .i64 0))), none, 0⟩], [], 0, false, []⟩
def r7_1 : Reg := ⟨[⟨(some 6), (.mv (.t 0)), none, 0⟩, ⟨(some 7), (.bin .lss (.int .i64) (.t 6) (.c (.int .i64 1))), none, 0⟩, ⟨(some 8), (.mv (.t 7)), none, 0⟩, ⟨(some 9), (.mv (.t 0)), (some (8, false)), 0⟩, ⟨(some 10), (.bin .gtr (.int .i64) (.t 9) (.c (.int .i64 192000))), (some (8, false)), 0⟩, ⟨(some 11), (.pick (.t 8) (.c (.bool true)) (.t 10)), none, 0⟩, ⟨(some 12), (.mv (.t 11)), none, 0⟩, ⟨(some 13), (.mv (.t 1)), (some (12, false)), 0⟩, ⟨(some 14), (.bin .lss (.int .i64) (.t 13) (.c (.int .i64 1))), (some (12, false)), 0⟩, ⟨(some 15), (.pick (.t 12) (.c (.bool true)) (.t 14)), none, 0⟩, ⟨(some 16), (.mv (.t 15)), none, 0⟩, ⟨(some 17), (.mv (.t 1)), (some (16, false)), 0⟩, ⟨(some 18), (.bin .gtr (.int .i64) (.t 17) (.c (.int .i64 192000))), (some (16, false)), 0⟩, ⟨(some 19), (.pick (.t 16) (.c (.bool true)) (.t 18)), none, 0⟩], [6, 7, 8, 9, 10, 11, 12, 13, 14, 15, 16, 17, 18], 0, false, []⟩
def r7_2 : Reg := ⟨[⟨(some 4), (.mv (.c (.int .i64 0))), none, 0⟩], [], 0, false, []⟩
def r7_3 : Reg := ⟨[⟨(some 20), (.mv (.t 0)), none, 0⟩, ⟨(some 21), (.bin .mul (.int .i64) (.t 20) (.c (.int .i64 4294967296))), none, 0⟩, ⟨(some 22), (.mv (.t 1)), none, 0⟩, ⟨(some 23), (.bin .quo (.int .i64) (.t 21) (.t 22)), none, 0⟩, ⟨(some 5), (.mv (.t 23)), none, 0⟩], [20, 21, 22, 23], 0, false, []⟩
def r7_4 : Reg := ⟨[⟨(some 24), (.mv (.t 5)), none, 0⟩, ⟨(some 25), (.bin .lss (.int .i64) (.t 24) (.c (.int .i64 1))), none, 0⟩, ⟨(some 26), (.mv (.t 25)), none, 0⟩, ⟨(some 27), (.mv (.t 5)), (some (26, false)), 0⟩, ⟨(some 28), (.bin .gtr (.int .i64) (.t 27) (.c (.int .i64 34359738368))), (some (26, false)), 0⟩, ⟨(some 29), (.pick (.t 26) (.c (.bool true)) (.t 28)), none, 0⟩], [24, 25, 26, 27, 28], 0, false, []⟩
def r7_5 : Reg := ⟨[⟨(some 4), (.mv (.c (.int .i64 0))), none, 0⟩], [], 0, false, []⟩
def r7_6 : Reg := ⟨[⟨(some 30), (.mv (.t 5)), none, 0⟩, ⟨(some 4), (.mv (.t 30)), none, 0⟩], [30], 0, false, []⟩
def sf7 : SFn := { np := 2, vars := [0, 1, 4, 5, 19, 29], body := (.seq (.reg r7_0) (.seq (.seq (.reg r7_1) (.cond (.t 19) (.seq (.reg r7_2) (.seq (.kill [0, 1, 5, 19, 29]) .ret)) .skip)) (.seq (.reg r7_3) (.seq (.seq (.reg r7_4) (.cond (.t 29) (.seq (.reg r7_5) (.seq (.kill [0, 1, 5, 19, 29]) .ret)) .skip)) (.seq (.reg r7_6) (.seq (.kill [0, 1, 5, 19, 29]) .ret)))))), res := [(.tmp 4)] }
/-! calliope/rate.Length -/
def r8_0 : Reg := ⟨[⟨(some 4), (.mv (.c (.int .i64 0))), none, 0⟩], [], 0, false, []⟩
def r8_1 : Reg := ⟨[⟨(some 5), (.mv (.t 0)), none, 0⟩, ⟨(some 6), (.bin .lss (.int .i64) (.t 5) (.c (.int .i64 1))), none, 0⟩, ⟨(some 7), (.mv (.t 6)), none, 0⟩, ⟨(some 8), (.mv (.t 0)), (some (7, false)), 0⟩, ⟨(some 9), (.bin .gtr (.int .i64) (.t 8) (.c (.int .i64 1048576))), (some (7, false)), 0⟩, ⟨(some 10), (.pick (.t 7) (.c (.bool true)) (.t 9)), none, 0⟩, ⟨(some 11), (.mv (.t 10)), none, 0⟩, ⟨(some 12), (.mv (.t 1)), (some (11, false)), 0⟩, ⟨(some 13), (.bin .lss (.int .i64) (.t 12) (.c (.int .i64 1))), (some (11, false)), 0⟩, ⟨(some 14), (.pick (.t 11) (.c (.bool true)) (.t 13)), none, 0⟩, ⟨(some 15), (.mv (.t 14)), none, 0⟩, ⟨(some 16), (.mv (.t 1)), (some (15, false)), 0⟩, ⟨(some 17), (.bin .gtr (.int .i64) (.t 16) (.c (.int .i64 34359738368))), (some (15, false)), 0⟩, ⟨(some 18), (.pick (.t 15) (.c (.bool true)) (.t 17)), none, 0⟩], [5, 6, 7, 8, 9, 10, 11, 12, 13, 14, 15, 16, 17], 0, false, []⟩
def r8_2 : Reg := ⟨[⟨(some 4), (.mv (.c (.int .i64 0))), none, 0⟩], [], 0, false, []⟩
def r8_3 : Reg := ⟨[⟨(some 19), (.mv (.t 0)), none, 0⟩, ⟨(some 20), (.bin .shl (.int .i64) (.t 19) (.c (.int .u64 32))), none, 0⟩, ⟨(some 21), (.bin .sub (.int .i64) (.t 20) (.c (.int .i64 1))), none, 0⟩, ⟨(some 22), (.mv (.t 1)), none, 0⟩, ⟨(some 23), (.bin .quo (.int .i64) (.t 21) (.t 22)), none, 0⟩, ⟨(some 24), (.bin .add (.int .i64) (.t 23) (.c (.int .i64 1))), none, 0⟩, ⟨(some 4), (.mv (.t 24)), none, 0⟩], [19, 20, 21, 22, 23, 24], 0, false, []⟩
def sf8 : SFn := { np := 2, vars := [0, 1, 4, 18], body := (.seq (.reg r8_0) (.seq (.seq (.reg r8_1) (.cond (.t 18) (.seq (.reg r8_2) (.seq (.kill [0, 1, 18]) .ret)) .skip)) (.seq (.reg r8_3) (.seq (.kill [0, 1, 18]) .ret)))), res := [(.tmp 4)] }
/-! calliope/calliopelaw42.length -/
def r9_0 : Reg := ⟨[⟨(some 4), (.mv (.c (.int .i64 0))), none, 0⟩], [], 0, false, []⟩
def r9_1 : Reg := ⟨[⟨(some 7), (.mv (.t 0)), none, 0⟩, ⟨(some 8), (.bin .lss (.int .i64) (.t 7) (.c (.int .i64 1))), none, 0⟩, ⟨(some 9), (.mv (.t 8)), none, 0⟩, ⟨(some 10), (.mv (.t 0)), (some (9, false)), 0⟩, ⟨(some 11), (.bin .gtr (.int .i64) (.t 10) (.c (.int .i64 1048576))), (some (9, false)), 0⟩, ⟨(some 12), (.pick (.t 9) (.c (.bool true)) (.t 11)), none, 0⟩, ⟨(some 13), (.mv (.t 12)), none, 0⟩, ⟨(some 14), (.mv (.t 1)), (some (13, false)), 0⟩, ⟨(some 15), (.bin .lss (.int .i64) (.t 14) (.c (.int .i64 1))), (some (13, false)), 0⟩, ⟨(some 16), (.pick (.t 13) (.c (.bool true)) (.t 15)), none, 0⟩, ⟨(some 17), (.mv (.t 16)), none, 0⟩, ⟨(some 18), (.mv (.t 1)), (some (17, false)), 0⟩, ⟨(some 19), (.bin .gtr (.int .i64) (.t 18) (.c (.int .i64 34359738368))), (some (17, false)), 0⟩, ⟨(some 20), (.pick (.t 17) (.c (.bool true)) (.t 19)), none, 0⟩], [7, 8, 9, 10, 11, 12, 13, 14, 15, 16, 17, 18, 19], 0, false, []⟩
def r9_2 : Reg := ⟨[⟨(some 4), (.mv (.c (.int .i64 0))), none, 0⟩], [], 0, false, []⟩
def r9_3 : Reg := ⟨[⟨(some 21), (.mv (.t 0)), none, 0⟩, ⟨(some 22), (.bin .mul (.int .i64) (.t 21) (.c (.int .i64 4294967296))), none, 0⟩, ⟨(some 5), (.mv (.t 22)), none, 0⟩], [21, 22], 0, false, []⟩
def r9_4 : Reg := ⟨[⟨(some 23), (.mv (.t 5)), none, 0⟩, ⟨(some 24), (.mv (.t 1)), none, 0⟩, ⟨(some 25), (.bin .quo (.int .i64) (.t 23) (.t 24)), none, 0⟩, ⟨(some 6), (.mv (.t 25)), none, 0⟩], [23, 24, 25], 0, false, []⟩
def r9_5 : Reg := ⟨[⟨(some 26), (.mv (.t 6)), none, 0⟩, ⟨(some 27), (.mv (.t 1)), none, 0⟩, ⟨(some 28), (.bin .mul (.int .i64) (.t 26) (.t 27)), none, 0⟩, ⟨(some 29), (.mv (.t 5)), none, 0⟩, ⟨(some 30), (.bin .lss (.int .i64) (.t 28) (.t 29)), none, 0⟩], [26, 27, 28, 29], 0, false, []⟩
def r9_6 : Reg := ⟨[⟨(some 31), (.mv (.t 6)), none, 0⟩, ⟨(some 32), (.bin .add (.int .i64) (.t 31) (.c (.int .i64 1))), none, 0⟩, ⟨(some 6), (.mv (.t 32)), none, 0⟩], [31, 32], 0, false, []⟩
def r9_7 : Reg := ⟨[⟨(some 33), (.mv (.t 6)), none, 0⟩, ⟨(some 4), (.mv (.t 33)), none, 0⟩], [33], 0, false, []⟩
def sf9 : SFn := { np := 2, vars := [0, 1, 4, 5, 6, 20, 30], body := (.seq (.reg r9_0) (.seq (.seq (.reg r9_1) (.cond (.t 20) (.seq (.reg r9_2) (.seq (.kill [0, 1, 5, 6, 20, 30]) .ret)) .skip)) (.seq (.reg r9_3) (.seq (.reg r9_4) (.seq (.seq (.reg r9_5) (.cond (.t 30) (.reg r9_6) .skip)) (.seq (.reg r9_7) (.seq (.kill [0, 1, 5, 6, 20, 30]) .ret))))))), res := [(.tmp 4)] }
/-! calliope/calliopelaw42.awake -/
def r10_0 : Reg := ⟨[⟨(some 0), (.mv (.c (.bool false))), none, 0⟩], [], 0, false, []⟩
def r10_1 : Reg := ⟨[⟨(some 4), (.bslice 1 2 (.int .i64 0) [(0, 1, (.c (.int .i64 10))), (1, 1, (.c (.int .i64 1000)))]), none, 0⟩, ⟨(some 5), (.call 16 [(.t 4), (.c (.int .i64 100)), (.c (.int .i64 1))]), none, 1⟩, ⟨(some 3), (.mv (.t 5)), none, 1⟩, ⟨(some 6), (.extract (.t 3) 0), none, 1⟩, ⟨(some 7), (.extract (.t 3) 1), none, 1⟩, ⟨(some 1), (.mv (.t 6)), none, 1⟩, ⟨(some 2), (.mv (.t 7)), none, 1⟩], [4, 5, 3, 6, 7], 1, true, []⟩
def r10_2 : Reg := ⟨[⟨(some 8), (.mv (.t 2)), none, 0⟩, ⟨(some 9), (.bin .eql (.int .i64) (.t 8) (.c (.int .i64 0))), none, 0⟩, ⟨(some 10), (.mv (.t 9)), none, 0⟩, ⟨(some 11), (.mv (.t 1)), (some (10, true)), 0⟩, ⟨(some 12), (.len .slice (.t 11)), (some (10, true)), 0⟩, ⟨(some 13), (.bin .eql (.int .i64) (.t 12) (.c (.int .i64 2))), (some (10, true)), 0⟩, ⟨(some 14), (.pick (.t 10) (.t 13) (.c (.bool false))), none, 0⟩, ⟨(some 15), (.mv (.t 14)), none, 0⟩, ⟨(some 16), (.mv (.t 1)), (some (15, true)), 0⟩, ⟨(some 17), (.idxS 1 (.t 16) (.c (.int .i64 0))), (some (15, true)), 0⟩, ⟨(some 18), (.load none (.t 17)), (some (15, true)), 0⟩, ⟨(some 19), (.bin .eql (.int .i64) (.t 18) (.c (.int .i64 1))), (some (15, true)), 0⟩, ⟨(some 20), (.pick (.t 15) (.t 19) (.c (.bool false))), none, 0⟩, ⟨(some 21), (.mv (.t 20)), none, 0⟩, ⟨(some 22), (.mv (.t 1)), (some (21, true)), 0⟩, ⟨(some 23), (.idxS 1 (.t 22) (.c (.int .i64 1))), (some (21, true)), 0⟩, ⟨(some 24), (.load none (.t 23)), (some (21, true)), 0⟩, ⟨(some 25), (.bin .eql (.int .i64) (.t 24) (.c (.int .i64 100))), (some (21, true)), 0⟩, ⟨(some 26), (.pick (.t 21) (.t 25) (.c (.bool false))), none, 0⟩, ⟨(some 0), (.mv (.t 26)), none, 0⟩], [8, 9, 10, 11, 12, 13, 14, 15, 16, 17, 18, 19, 20, 21, 22, 23, 24, 25, 26], 0, false, []⟩
def sf10 : SFn := { np := 0, vars := [0, 1, 2], body := (.seq (.reg r10_0) (.seq (.reg r10_1) (.seq (.reg r10_2) (.seq (.kill [1, 2]) .ret)))), res := [(.tmp 0)] }
/-! calliope/calliopelaw25.Few -/
def r11_0 : Reg := ⟨[⟨(some 2), (.mv (.c .nils)), none, 0⟩], [], 0, false, []⟩
def r11_1 : Reg := ⟨[⟨(some 3), (.mv (.c .nils)), none, 0⟩], [], 0, false, []⟩
def r11_2 : Reg := ⟨[⟨(some 4), (.mv (.c (.int .i64 0))), none, 0⟩], [], 0, false, []⟩
def r11_3 : Reg := ⟨[⟨(some 5), (.mv (.t 4)), none, 0⟩, ⟨(some 6), (.mv (.t 0)), none, 0⟩, ⟨(some 7), (.len .slice (.t 6)), none, 0⟩, ⟨(some 8), (.bin .lss (.int .i64) (.t 5) (.t 7)), none, 0⟩, ⟨(some 9), (.mv (.t 8)), none, 0⟩, ⟨(some 10), (.mv (.t 4)), (some (9, true)), 0⟩, ⟨(some 11), (.bin .lss (.int .i64) (.t 10) (.c (.int .i64 200))), (some (9, true)), 0⟩, ⟨(some 12), (.pick (.t 9) (.t 11) (.c (.bool false))), none, 0⟩], [5, 6, 7, 8, 9, 10, 11], 0, false, []⟩
def r11_4 : Reg := ⟨[⟨(some 15), (.mv (.t 3)), none, 0⟩, ⟨(some 16), (.mv (.t 0)), none, 0⟩, ⟨(some 17), (.mv (.t 4)), none, 0⟩, ⟨(some 18), (.idxS 1 (.t 16) (.t 17)), none, 0⟩, ⟨(some 19), (.load none (.t 18)), none, 0⟩, ⟨(some 20), (.bin .rem (.int .i64) (.t 19) (.c (.int .i64 1048577))), none, 0⟩, ⟨(some 21), (.bslice 1 1 (.int .i64 0) [(0, 1, (.t 20))]), none, 0⟩, ⟨(some 22), (.app 1 8 (.t 15) (.t 21)), none, 1⟩, ⟨(some 3), (.mv (.t 22)), none, 2⟩], [15, 16, 17, 18, 19, 20, 21, 22], 2, true, []⟩
def r11_5 : Reg := ⟨[⟨(some 13), (.mv (.t 4)), none, 0⟩, ⟨(some 14), (.bin .add (.int .i64) (.t 13) (.c (.int .i64 1))), none, 0⟩, ⟨(some 4), (.mv (.t 14)), none, 0⟩], [13, 14], 0, false, []⟩
def l11_6 : SC := (.seq (.seq (.seq (.reg r11_3) (.cond (.t 12) .skip (.seq (.kill [0, 2, 4, 12]) (.exit 0)))) (.seq (.block 1 (.reg r11_4)) (.reg r11_5))) (.kill [2, 12]))
def r11_7 : Reg := ⟨[⟨(some 23), (.mv (.t 3)), none, 0⟩, ⟨(some 2), (.mv (.t 23)), none, 0⟩], [23], 0, false, []⟩
def sf11 : SFn := { np := 1, vars := [0, 2, 3, 4, 12], body := (.seq (.reg r11_0) (.seq (.reg r11_1) (.seq (.seq (.reg r11_2) (.block 0 (.seq (.kill [2, 12]) (.loop l11_6)))) (.seq (.reg r11_7) (.seq (.kill [0, 3, 4, 12]) .ret))))), res := [(.tmp 2)] }
/-! calliope/rate.At -/
def r12_0 : Reg := ⟨[⟨(some 4), (.mv (.c (.int .i64 0))), none, 0⟩], [], 0, false, []⟩
def r12_1 : Reg := ⟨[⟨(some 8), (.mv (.t 0)), none, 0⟩, ⟨(some 9), (.len .slice (.t 8)), none, 0⟩, ⟨(some 10), (.bin .eql (.int .i64) (.t 9) (.c (.int .i64 0))), none, 0⟩, ⟨(some 11), (.mv (.t 10)), none, 0⟩, ⟨(some 12), (.mv (.t 1)), (some (11, false)), 0⟩, ⟨(some 13), (.bin .lss (.int .i64) (.t 12) (.c (.int .i64 0))), (some (11, false)), 0⟩, ⟨(some 14), (.pick (.t 11) (.c (.bool true)) (.t 13)), none, 0⟩], [8, 9, 10, 11, 12, 13], 0, false, []⟩
def r12_2 : Reg := ⟨[⟨(some 4), (.mv (.c (.int .i64 0))), none, 0⟩], [], 0, false, []⟩
def r12_3 : Reg := ⟨[⟨(some 15), (.mv (.t 1)), none, 0⟩, ⟨(some 16), (.bin .shr (.int .i64) (.t 15) (.c (.int .u64 32))), none, 0⟩, ⟨(some 17), (.mv (.t 0)), none, 0⟩, ⟨(some 18), (.len .slice (.t 17)), none, 0⟩, ⟨(some 19), (.bin .sub (.int .i64) (.t 18) (.c (.int .i64 1))), none, 0⟩, ⟨(some 20), (.mx false [(.t 16), (.t 19)]), none, 0⟩, ⟨(some 5), (.mv (.t 20)), none, 0⟩], [15, 16, 17, 18, 19, 20], 0, false, []⟩
def r12_4 : Reg := ⟨[⟨(some 6), (.alloc (.ints .i64 [0, 0, 0, 0])), none, 0⟩], [], 1, true, []⟩
def r12_5 : Reg := ⟨[⟨(some 21), (.mv (.c (.int .i64 0))), none, 0⟩], [], 0, false, []⟩
def r12_6 : Reg := ⟨[⟨(some 22), (.bin .lss (.int .i64) (.t 21) (.c (.int .i64 4))), none, 0⟩], [], 0, false, []⟩
def r12_7 : Reg := ⟨[⟨(some 23), (.mv (.t 21)), none, 0⟩, ⟨(some 7), (.mv (.t 23)), none, 0⟩], [23], 0, false, []⟩
def r12_8 : Reg := ⟨[⟨(some 24), (.mv (.t 7)), none, 0⟩, ⟨(some 25), (.mv (.t 0)), none, 0⟩, ⟨(some 26), (.mv (.t 5)), none, 0⟩, ⟨(some 27), (.bin .sub (.int .i64) (.t 26) (.c (.int .i64 1))), none, 0⟩, ⟨(some 28), (.mv (.t 7)), none, 0⟩, ⟨(some 29), (.bin .add (.int .i64) (.t 27) (.t 28)), none, 0⟩, ⟨(some 30), (.call 17 [(.t 25), (.t 29)]), none, 0⟩, ⟨(some 31), (.idxA 4 1 (.t 6) (.t 24)), none, 0⟩, ⟨none, (.store 1 (.t 31) (.t 30)), none, 0⟩], [24, 25, 26, 27, 28, 29, 30, 31], 0, true, []⟩
def r12_9 : Reg := ⟨[⟨(some 32), (.bin .add (.int .i64) (.t 21) (.c (.int .i64 1))), none, 0⟩, ⟨(some 21), (.mv (.t 32)), none, 0⟩], [32], 0, false, []⟩
def l12_10 : SC := (.seq (.seq (.reg r12_6) (.seq (.cond (.t 22) .skip (.seq (.kill [0, 4, 5, 7, 14, 21, 22]) (.exit 0))) (.seq (.block 1 (.seq (.reg r12_7) (.reg r12_8))) (.reg r12_9)))) (.kill [4, 7, 14, 22]))
def r12_11 : Reg := ⟨[⟨(some 33), (.load (some 4) (.t 6)), none, 0⟩, ⟨(some 34), (.mv (.t 1)), none, 0⟩, ⟨(some 35), (.callP 19 [(.t 34)]), none, 0⟩, ⟨(some 36), (.callP 18 [(.t 33), (.t 35)]), none, 0⟩, ⟨(some 4), (.mv (.t 36)), none, 0⟩], [33, 34, 35, 36], 0, false, []⟩
def sf12 : SFn := { np := 2, vars := [0, 1, 4, 5, 6, 7, 14, 21, 22], body := (.seq (.reg r12_0) (.seq (.seq (.reg r12_1) (.cond (.t 14) (.seq (.reg r12_2) (.seq (.kill [0, 1, 5, 6, 7, 14, 21, 22]) .ret)) .skip)) (.seq (.reg r12_3) (.seq (.reg r12_4) (.seq (.seq (.reg r12_5) (.block 0 (.seq (.kill [4, 7, 14, 22]) (.loop l12_10)))) (.seq (.reg r12_11) (.seq (.kill [0, 1, 5, 6, 7, 14, 21, 22]) .ret))))))), res := [(.tmp 4)] }
/-! calliope/calliopelaw42.at -/
def r13_0 : Reg := ⟨[⟨(some 4), (.mv (.c (.int .i64 0))), none, 0⟩], [], 0, false, []⟩
def r13_1 : Reg := ⟨[⟨(some 6), (.mv (.t 0)), none, 0⟩, ⟨(some 7), (.len .slice (.t 6)), none, 0⟩, ⟨(some 8), (.bin .eql (.int .i64) (.t 7) (.c (.int .i64 0))), none, 0⟩, ⟨(some 9), (.mv (.t 8)), none, 0⟩, ⟨(some 10), (.mv (.t 1)), (some (9, false)), 0⟩, ⟨(some 11), (.bin .lss (.int .i64) (.t 10) (.c (.int .i64 0))), (some (9, false)), 0⟩, ⟨(some 12), (.pick (.t 9) (.c (.bool true)) (.t 11)), none, 0⟩], [6, 7, 8, 9, 10, 11], 0, false, []⟩
def r13_2 : Reg := ⟨[⟨(some 4), (.mv (.c (.int .i64 0))), none, 0⟩], [], 0, false, []⟩
def r13_3 : Reg := ⟨[⟨(some 13), (.mv (.t 1)), none, 0⟩, ⟨(some 14), (.bin .quo (.int .i64) (.t 13) (.c (.int .i64 4294967296))), none, 0⟩, ⟨(some 5), (.mv (.t 14)), none, 0⟩], [13, 14], 0, false, []⟩
def r13_4 : Reg := ⟨[⟨(some 15), (.mv (.t 5)), none, 0⟩, ⟨(some 16), (.mv (.t 0)), none, 0⟩, ⟨(some 17), (.len .slice (.t 16)), none, 0⟩, ⟨(some 18), (.bin .geq (.int .i64) (.t 15) (.t 17)), none, 0⟩], [15, 16, 17], 0, false, []⟩
def r13_5 : Reg := ⟨[⟨(some 19), (.mv (.t 0)), none, 0⟩, ⟨(some 20), (.len .slice (.t 19)), none, 0⟩, ⟨(some 21), (.bin .sub (.int .i64) (.t 20) (.c (.int .i64 1))), none, 0⟩, ⟨(some 5), (.mv (.t 21)), none, 0⟩], [19, 20, 21], 0, false, []⟩
def r13_6 : Reg := ⟨[⟨(some 22), (.mv (.t 0)), none, 0⟩, ⟨(some 23), (.mv (.t 5)), none, 0⟩, ⟨(some 24), (.bin .sub (.int .i64) (.t 23) (.c (.int .i64 1))), none, 0⟩, ⟨(some 25), (.call 20 [(.t 22), (.t 24)]), none, 0⟩, ⟨(some 26), (.mv (.t 0)), none, 0⟩, ⟨(some 27), (.mv (.t 5)), none, 0⟩, ⟨(some 28), (.call 20 [(.t 26), (.t 27)]), none, 0⟩, ⟨(some 29), (.mv (.t 0)), none, 0⟩, ⟨(some 30), (.mv (.t 5)), none, 0⟩, ⟨(some 31), (.bin .add (.int .i64) (.t 30) (.c (.int .i64 1))), none, 0⟩, ⟨(some 32), (.call 20 [(.t 29), (.t 31)]), none, 0⟩, ⟨(some 33), (.mv (.t 0)), none, 0⟩, ⟨(some 34), (.mv (.t 5)), none, 0⟩, ⟨(some 35), (.bin .add (.int .i64) (.t 34) (.c (.int .i64 2))), none, 0⟩, ⟨(some 36), (.call 20 [(.t 33), (.t 35)]), none, 0⟩, ⟨(some 37), (.build (.ints .i64 [0, 0, 0, 0]) [(0, 1, (.t 25)), (1, 1, (.t 28)), (2, 1, (.t 32)), (3, 1, (.t 36))]), none, 0⟩, ⟨(some 38), (.mv (.t 1)), none, 0⟩, ⟨(some 39), (.bin .quo (.int .i64) (.t 38) (.c (.int .i64 134217728))), none, 0⟩, ⟨(some 40), (.bin .rem (.int .i64) (.t 39) (.c (.int .i64 32))), none, 0⟩, ⟨(some 41), (.callP 18 [(.t 37), (.t 40)]), none, 0⟩, ⟨(some 4), (.mv (.t 41)), none, 0⟩], [22, 23, 24, 25, 26, 27, 28, 29, 30, 31, 32, 33, 34, 35, 36, 37, 38, 39, 40, 41], 0, true, []⟩
def sf13 : SFn := { np := 2, vars := [0, 1, 4, 5, 12, 18], body := (.seq (.reg r13_0) (.seq (.seq (.reg r13_1) (.cond (.t 12) (.seq (.reg r13_2) (.seq (.kill [0, 1, 5, 12, 18]) .ret)) .skip)) (.seq (.reg r13_3) (.seq (.seq (.reg r13_4) (.cond (.t 18) (.reg r13_5) .skip)) (.seq (.reg r13_6) (.seq (.kill [0, 1, 5, 12, 18]) .ret)))))), res := [(.tmp 4)] }
/-! calliope/rate.Convert -/
def r14_0 : Reg := ⟨[⟨(some 6), (.mv (.c .nils)), none, 0⟩, ⟨(some 7), (.mv (.c (.int .i64 0))), none, 0⟩], [], 0, false, []⟩
def r14_1 : Reg := ⟨[⟨(some 11), (.mv (.t 1)), none, 0⟩, ⟨(some 12), (.mv (.t 2)), none, 0⟩, ⟨(some 13), (.callP 6 [(.t 11), (.t 12)]), none, 0⟩, ⟨(some 8), (.mv (.t 13)), none, 0⟩], [11, 12, 13], 0, false, []⟩
def r14_2 : Reg := ⟨[⟨(some 15), (.mv (.t 8)), none, 0⟩, ⟨(some 16), (.bin .eql (.int .i64) (.t 15) (.c (.int .i64 0))), none, 0⟩, ⟨(some 14), (.mv (.t 16)), none, 0⟩], [15, 16], 0, false, []⟩
def r14_3 : Reg := ⟨[⟨(some 6), (.mv (.c .nils)), none, 0⟩, ⟨(some 7), (.mv (.c (.int .i64 14))), none, 0⟩], [], 0, false, []⟩
def r14_4 : Reg := ⟨[⟨(some 18), (.mv (.t 0)), none, 0⟩, ⟨(some 19), (.len .slice (.t 18)), none, 0⟩, ⟨(some 20), (.bin .gtr (.int .i64) (.t 19) (.c (.int .i64 1048576))), none, 0⟩, ⟨(some 21), (.mv (.t 20)), none, 0⟩, ⟨(some 22), (.mv (.t 0)), (some (21, false)), 0⟩, ⟨(some 23), (.len .slice (.t 22)), (some (21, false)), 0⟩, ⟨(some 24), (.mv (.t 8)), (some (21, false)), 0⟩, ⟨(some 25), (.callP 8 [(.t 23), (.t 24)]), (some (21, false)), 0⟩, ⟨(some 26), (.bin .gtr (.int .i64) (.t 25) (.c (.int .i64 1048576))), (some (21, false)), 0⟩, ⟨(some 27), (.pick (.t 21) (.c (.bool true)) (.t 26)), none, 0⟩, ⟨(some 17), (.mv (.t 27)), none, 0⟩], [18, 19, 20, 21, 22, 23, 24, 25, 26, 27], 0, false, []⟩
def r14_5 : Reg := ⟨[⟨(some 6), (.mv (.c .nils)), none, 0⟩, ⟨(some 7), (.mv (.c (.int .i64 3))), none, 0⟩], [], 0, false, []⟩
def r14_6 : Reg := ⟨[⟨(some 9), (.mv (.c .nils)), none, 0⟩], [], 0, false, []⟩
def r14_7 : Reg := ⟨[⟨(some 28), (.mv (.t 0)), none, 0⟩, ⟨(some 29), (.len .slice (.t 28)), none, 0⟩, ⟨(some 30), (.mv (.t 8)), none, 0⟩, ⟨(some 31), (.callP 8 [(.t 29), (.t 30)]), none, 0⟩, ⟨(some 32), (.mv (.c (.int .i64 0))), none, 0⟩], [28, 29, 30], 0, false, []⟩
def r14_8 : Reg := ⟨[⟨(some 33), (.bin .lss (.int .i64) (.t 32) (.t 31)), none, 0⟩], [], 0, false, []⟩
def r14_9 : Reg := ⟨[⟨(some 34), (.mv (.t 32)), none, 0⟩, ⟨(some 10), (.mv (.t 34)), none, 0⟩], [34], 0, false, []⟩
def r14_10 : Reg := ⟨[⟨(some 35), (.mv (.t 9)), none, 0⟩, ⟨(some 36), (.mv (.t 0)), none, 0⟩, ⟨(some 37), (.mv (.t 10)), none, 0⟩, ⟨(some 38), (.mv (.t 8)), none, 0⟩, ⟨(some 39), (.bin .mul (.int .i64) (.t 37) (.t 38)), none, 0⟩, ⟨(some 40), (.call 12 [(.t 36), (.t 39)]), none, 0⟩, ⟨(some 41), (.bslice 1 1 (.int .i64 0) [(0, 1, (.t 40))]), none, 0⟩, ⟨(some 42), (.app 1 8 (.t 35) (.t 41)), none, 1⟩, ⟨(some 9), (.mv (.t 42)), none, 2⟩], [35, 36, 37, 38, 39, 40, 41, 42], 2, true, []⟩
def r14_11 : Reg := ⟨[⟨(some 43), (.bin .add (.int .i64) (.t 32) (.c (.int .i64 1))), none, 0⟩, ⟨(some 32), (.mv (.t 43)), none, 0⟩], [43], 0, false, []⟩
def l14_12 : SC := (.seq (.seq (.reg r14_8) (.seq (.cond (.t 33) .skip (.seq (.kill [0, 1, 2, 6, 7, 8, 10, 14, 17, 31, 32, 33]) (.exit 1))) (.seq (.block 2 (.seq (.reg r14_9) (.reg r14_10))) (.reg r14_11)))) (.kill [1, 2, 6, 7, 10, 14, 17, 33]))
def r14_13 : Reg := ⟨[⟨(some 44), (.mv (.t 9)), none, 0⟩, ⟨(some 6), (.mv (.t 44)), none, 0⟩, ⟨(some 7), (.mv (.c (.int .i64 0))), none, 0⟩], [44], 0, false, []⟩
def sf14 : SFn := { np := 3, vars := [0, 1, 2, 6, 7, 8, 9, 10, 14, 17, 31, 32, 33], body := (.seq (.reg r14_0) (.seq (.reg r14_1) (.seq (.block 0 (.seq (.reg r14_2) (.cond (.t 14) (.seq (.reg r14_3) (.seq (.kill [0, 1, 2, 8, 9, 10, 14, 17, 31, 32, 33]) .ret)) (.seq (.reg r14_4) (.cond (.t 17) (.seq (.reg r14_5) (.seq (.kill [0, 1, 2, 8, 9, 10, 14, 17, 31, 32, 33]) .ret)) .skip))))) (.seq (.reg r14_6) (.seq (.seq (.reg r14_7) (.block 1 (.seq (.kill [1, 2, 6, 7, 10, 14, 17, 33]) (.loop l14_12)))) (.seq (.reg r14_13) (.seq (.kill [0, 1, 2, 8, 9, 10, 14, 17, 31, 32, 33]) .ret))))))), res := [(.tmp 6), (.tmp 7)] }
/-! calliope/calliopelaw42.hold -/
def r15_0 : Reg := ⟨[⟨(some 2), (.mv (.c (.int .i64 0))), none, 0⟩], [], 0, false, []⟩
def r15_1 : Reg := ⟨[⟨(some 3), (.mv (.t 0)), none, 0⟩, ⟨(some 4), (.bin .gtr (.int .i64) (.t 3) (.c (.int .i64 32767))), none, 0⟩], [3], 0, false, []⟩
def r15_2 : Reg := ⟨[⟨(some 2), (.mv (.c (.int .i64 32767))), none, 0⟩], [], 0, false, []⟩
def r15_3 : Reg := ⟨[⟨(some 5), (.mv (.t 0)), none, 0⟩, ⟨(some 6), (.bin .lss (.int .i64) (.t 5) (.c (.int .i64 (-32768)))), none, 0⟩], [5], 0, false, []⟩
def r15_4 : Reg := ⟨[⟨(some 2), (.mv (.c (.int .i64 (-32768)))), none, 0⟩], [], 0, false, []⟩
def r15_5 : Reg := ⟨[⟨(some 7), (.mv (.t 0)), none, 0⟩, ⟨(some 2), (.mv (.t 7)), none, 0⟩], [7], 0, false, []⟩
def sf15 : SFn := { np := 1, vars := [0, 2, 4, 6], body := (.seq (.reg r15_0) (.seq (.seq (.reg r15_1) (.cond (.t 4) (.seq (.reg r15_2) (.seq (.kill [0, 4, 6]) .ret)) .skip)) (.seq (.seq (.reg r15_3) (.cond (.t 6) (.seq (.reg r15_4) (.seq (.kill [0, 4, 6]) .ret)) .skip)) (.seq (.reg r15_5) (.seq (.kill [0, 4, 6]) .ret))))), res := [(.tmp 2)] }
/-! calliope/rate.Limit -/
def r16_0 : Reg := ⟨[⟨(some 6), (.mv (.c .nils)), none, 0⟩, ⟨(some 7), (.mv (.c (.int .i64 0))), none, 0⟩], [], 0, false, []⟩
def r16_1 : Reg := ⟨[⟨(some 14), (.mv (.t 1)), none, 0⟩, ⟨(some 15), (.bin .lss (.int .i64) (.t 14) (.c (.int .i64 1))), none, 0⟩, ⟨(some 16), (.mv (.t 15)), none, 0⟩, ⟨(some 17), (.mv (.t 1)), (some (16, false)), 0⟩, ⟨(some 18), (.bin .gtr (.int .i64) (.t 17) (.c (.int .i64 32767))), (some (16, false)), 0⟩, ⟨(some 19), (.pick (.t 16) (.c (.bool true)) (.t 18)), none, 0⟩, ⟨(some 20), (.mv (.t 19)), none, 0⟩, ⟨(some 21), (.mv (.t 2)), (some (20, false)), 0⟩, ⟨(some 22), (.bin .lss (.int .i64) (.t 21) (.c (.int .i64 0))), (some (20, false)), 0⟩, ⟨(some 23), (.pick (.t 20) (.c (.bool true)) (.t 22)), none, 0⟩, ⟨(some 24), (.mv (.t 23)), none, 0⟩, ⟨(some 25), (.mv (.t 2)), (some (24, false)), 0⟩, ⟨(some 26), (.bin .gtr (.int .i64) (.t 25) (.c (.int .i64 1024))), (some (24, false)), 0⟩, ⟨(some 27), (.pick (.t 24) (.c (.bool true)) (.t 26)), none, 0⟩], [14, 15, 16, 17, 18, 19, 20, 21, 22, 23, 24, 25, 26], 0, false, []⟩
def r16_2 : Reg := ⟨[⟨(some 6), (.mv (.c .nils)), none, 0⟩, ⟨(some 7), (.mv (.c (.int .i64 1))), none, 0⟩], [], 0, false, []⟩
def r16_3 : Reg := ⟨[⟨(some 8), (.mv (.c .nils)), none, 0⟩], [], 0, false, []⟩
def r16_4 : Reg := ⟨[⟨(some 28), (.mv (.t 0)), none, 0⟩, ⟨(some 29), (.len .slice (.t 28)), none, 0⟩, ⟨(some 30), (.mv (.c (.int .i64 0))), none, 0⟩], [], 0, false, []⟩
def r16_5 : Reg := ⟨[⟨(some 31), (.bin .lss (.int .i64) (.t 30) (.t 29)), none, 0⟩], [], 0, false, []⟩
def r16_6 : Reg := ⟨[⟨(some 32), (.mv (.t 30)), none, 0⟩, ⟨(some 33), (.idxS 1 (.t 28) (.t 30)), none, 0⟩, ⟨(some 34), (.load none (.t 33)), none, 0⟩, ⟨(some 9), (.mv (.t 32)), none, 0⟩, ⟨(some 10), (.mv (.t 34)), none, 0⟩], [32, 33, 34], 0, false, []⟩
def r16_7 : Reg := ⟨[⟨(some 35), (.mv (.t 1)), none, 0⟩, ⟨(some 11), (.mv (.t 35)), none, 0⟩], [35], 0, false, []⟩
def r16_8 : Reg := ⟨[⟨(some 36), (.mv (.t 0)), none, 0⟩, ⟨(some 37), (.mv (.t 9)), none, 0⟩, ⟨(some 38), (.mv (.t 9)), none, 0⟩, ⟨(some 39), (.mv (.t 2)), none, 0⟩, ⟨(some 40), (.bin .add (.int .i64) (.t 38) (.t 39)), none, 0⟩, ⟨(some 41), (.bin .add (.int .i64) (.t 40) (.c (.int .i64 1))), none, 0⟩, ⟨(some 42), (.mv (.t 0)), none, 0⟩, ⟨(some 43), (.len .slice (.t 42)), none, 0⟩, ⟨(some 44), (.mx false [(.t 41), (.t 43)]), none, 0⟩, ⟨(some 45), (.slS 1 (.t 36) (some (.t 37)) (some (.t 44))), none, 0⟩, ⟨(some 46), (.len .slice (.t 45)), none, 0⟩, ⟨(some 47), (.mv (.c (.int .i64 0))), none, 0⟩], [36, 37, 38, 39, 40, 41, 42, 43, 44], 0, false, []⟩
def r16_9 : Reg := ⟨[⟨(some 48), (.bin .lss (.int .i64) (.t 47) (.t 46)), none, 0⟩], [], 0, false, []⟩
def r16_10 : Reg := ⟨[⟨(some 49), (.idxS 1 (.t 45) (.t 47)), none, 0⟩, ⟨(some 50), (.load none (.t 49)), none, 0⟩, ⟨(some 13), (.mv (.t 50)), none, 0⟩], [49, 50], 0, false, []⟩
def r16_11 : Reg := ⟨[⟨(some 51), (.mv (.t 11)), none, 0⟩, ⟨(some 52), (.mv (.t 13)), none, 0⟩, ⟨(some 53), (.callP 22 [(.t 52)]), none, 0⟩, ⟨(some 54), (.callP 21 [(.t 53)]), none, 0⟩, ⟨(some 55), (.mx true [(.t 51), (.t 54)]), none, 0⟩, ⟨(some 11), (.mv (.t 55)), none, 0⟩], [51, 52, 53, 54, 55], 0, false, []⟩
def r16_12 : Reg := ⟨[⟨(some 56), (.bin .add (.int .i64) (.t 47) (.c (.int .i64 1))), none, 0⟩, ⟨(some 47), (.mv (.t 56)), none, 0⟩], [56], 0, false, []⟩
def l16_13 : SC := (.seq (.seq (.reg r16_9) (.seq (.cond (.t 48) .skip (.seq (.kill [6, 7, 9, 13, 27, 31, 45, 46, 47, 48]) (.exit 2))) (.seq (.block 3 (.seq (.reg r16_10) (.reg r16_11))) (.reg r16_12)))) (.kill [6, 7, 9, 13, 27, 31, 48]))
def r16_14 : Reg := ⟨[⟨(some 57), (.mv (.t 8)), none, 0⟩, ⟨(some 58), (.mv (.t 10)), none, 0⟩, ⟨(some 59), (.callP 22 [(.t 58)]), none, 0⟩, ⟨(some 60), (.mv (.t 1)), none, 0⟩, ⟨(some 61), (.mv (.t 11)), none, 0⟩, ⟨(some 62), (.callP 23 [(.t 59), (.t 60), (.t 61)]), none, 0⟩, ⟨(some 63), (.bslice 1 1 (.int .i64 0) [(0, 1, (.t 62))]), none, 0⟩, ⟨(some 64), (.app 1 8 (.t 57) (.t 63)), none, 1⟩, ⟨(some 8), (.mv (.t 64)), none, 2⟩], [57, 58, 59, 60, 61, 62, 63, 64], 2, true, []⟩
def r16_15 : Reg := ⟨[⟨(some 65), (.bin .add (.int .i64) (.t 30) (.c (.int .i64 1))), none, 0⟩, ⟨(some 30), (.mv (.t 65)), none, 0⟩], [65], 0, false, []⟩
def l16_16 : SC := (.seq (.seq (.reg r16_5) (.seq (.cond (.t 31) .skip (.seq (.kill [0, 1, 2, 6, 7, 9, 10, 11, 13, 27, 28, 29, 30, 31, 45, 46, 47, 48]) (.exit 0))) (.seq (.block 1 (.seq (.reg r16_6) (.seq (.reg r16_7) (.seq (.seq (.reg r16_8) (.block 2 (.seq (.kill [6, 7, 9, 13, 27, 31, 48]) (.loop l16_13)))) (.reg r16_14))))) (.reg r16_15)))) (.kill [6, 7, 9, 10, 11, 13, 27, 31, 45, 46, 47, 48]))
def r16_17 : Reg := ⟨[⟨(some 66), (.mv (.t 8)), none, 0⟩, ⟨(some 6), (.mv (.t 66)), none, 0⟩, ⟨(some 7), (.mv (.c (.int .i64 0))), none, 0⟩], [66], 0, false, []⟩
def sf16 : SFn := { np := 3, vars := [0, 1, 2, 6, 7, 8, 9, 10, 11, 13, 27, 28, 29, 30, 31, 45, 46, 47, 48], body := (.seq (.reg r16_0) (.seq (.seq (.reg r16_1) (.cond (.t 27) (.seq (.reg r16_2) (.seq (.kill [0, 1, 2, 8, 9, 10, 11, 13, 27, 28, 29, 30, 31, 45, 46, 47, 48]) .ret)) .skip)) (.seq (.reg r16_3) (.seq (.seq (.reg r16_4) (.block 0 (.seq (.kill [6, 7, 9, 10, 11, 13, 27, 31, 45, 46, 47, 48]) (.loop l16_16)))) (.seq (.reg r16_17) (.seq (.kill [0, 1, 2, 8, 9, 10, 11, 13, 27, 28, 29, 30, 31, 45, 46, 47, 48]) .ret)))))), res := [(.tmp 6), (.tmp 7)] }
/-! calliope/rate.get -/
def r17_0 : Reg := ⟨[⟨(some 4), (.mv (.c (.int .i64 0))), none, 0⟩], [], 0, false, []⟩
def r17_1 : Reg := ⟨[⟨(some 5), (.mv (.t 0)), none, 0⟩, ⟨(some 6), (.mv (.t 1)), none, 0⟩, ⟨(some 7), (.mv (.t 0)), none, 0⟩, ⟨(some 8), (.len .slice (.t 7)), none, 0⟩, ⟨(some 9), (.bin .sub (.int .i64) (.t 8) (.c (.int .i64 1))), none, 0⟩, ⟨(some 10), (.mx false [(.t 6), (.t 9)]), none, 0⟩, ⟨(some 11), (.mx true [(.t 10), (.c (.int .i64 0))]), none, 0⟩, ⟨(some 12), (.idxS 1 (.t 5) (.t 11)), none, 0⟩, ⟨(some 13), (.load none (.t 12)), none, 0⟩, ⟨(some 4), (.mv (.t 13)), none, 0⟩], [5, 6, 7, 8, 9, 10, 11, 12, 13], 0, false, []⟩
def sf17 : SFn := { np := 2, vars := [0, 1, 4], body := (.seq (.reg r17_0) (.seq (.reg r17_1) (.seq (.kill [0, 1]) .ret))), res := [(.tmp 4)] }
/-! calliope/voice.Blend -/
def r18_0 : Reg := ⟨[⟨(some 2), (.box (.t 0)), none, 0⟩, ⟨(some 4), (.mv (.c (.int .i64 0))), none, 1⟩], [], 1, true, []⟩
def r18_1 : Reg := ⟨[⟨(some 5), (.mv (.c (.int .i64 0))), none, 0⟩], [], 0, false, []⟩
def r18_2 : Reg := ⟨[⟨(some 8), (.mv (.t 1)), none, 0⟩, ⟨(some 9), (.callP 24 [(.t 8)]), none, 0⟩, ⟨(some 10), (.mv (.c (.int .i64 0))), none, 0⟩], [8], 0, false, []⟩
def r18_3 : Reg := ⟨[⟨(some 11), (.bin .lss (.int .i64) (.t 10) (.c (.int .i64 4))), none, 0⟩], [], 0, false, []⟩
def r18_4 : Reg := ⟨[⟨(some 12), (.mv (.t 10)), none, 0⟩, ⟨(some 13), (.idxV 4 1 false (.t 9) (.t 10)), none, 0⟩, ⟨(some 6), (.mv (.t 12)), none, 0⟩, ⟨(some 7), (.mv (.t 13)), none, 0⟩], [12, 13], 0, false, []⟩
def r18_5 : Reg := ⟨[⟨(some 14), (.mv (.t 5)), none, 0⟩, ⟨(some 15), (.mv (.t 7)), none, 0⟩, ⟨(some 16), (.mv (.t 6)), none, 0⟩, ⟨(some 17), (.idxA 4 1 (.t 2) (.t 16)), none, 0⟩, ⟨(some 18), (.load none (.t 17)), none, 0⟩, ⟨(some 19), (.bin .mul (.int .i64) (.t 15) (.t 18)), none, 0⟩, ⟨(some 20), (.bin .add (.int .i64) (.t 14) (.t 19)), none, 0⟩, ⟨(some 5), (.mv (.t 20)), none, 0⟩], [14, 15, 16, 17, 18, 19, 20], 0, false, []⟩
def r18_6 : Reg := ⟨[⟨(some 21), (.bin .add (.int .i64) (.t 10) (.c (.int .i64 1))), none, 0⟩, ⟨(some 10), (.mv (.t 21)), none, 0⟩], [21], 0, false, []⟩
def l18_7 : SC := (.seq (.seq (.reg r18_3) (.seq (.cond (.t 11) .skip (.seq (.kill [0, 1, 2, 4, 6, 7, 9, 10, 11]) (.exit 0))) (.seq (.block 1 (.seq (.reg r18_4) (.reg r18_5))) (.reg r18_6)))) (.kill [0, 1, 4, 6, 7, 11]))
def r18_8 : Reg := ⟨[⟨(some 22), (.mv (.t 5)), none, 0⟩, ⟨(some 23), (.callP 25 [(.t 22), (.c (.int .i64 16))]), none, 0⟩, ⟨(some 24), (.callP 22 [(.t 23)]), none, 0⟩, ⟨(some 4), (.mv (.t 24)), none, 0⟩], [22, 23, 24], 0, false, []⟩
def sf18 : SFn := { np := 2, vars := [0, 1, 2, 4, 5, 6, 7, 9, 10, 11], body := (.seq (.reg r18_0) (.seq (.reg r18_1) (.seq (.seq (.reg r18_2) (.block 0 (.seq (.kill [0, 1, 4, 6, 7, 11]) (.loop l18_7)))) (.seq (.reg r18_8) (.seq (.kill [0, 1, 2, 5, 6, 7, 9, 10, 11]) .ret))))), res := [(.tmp 4)] }
/-! calliope/voice.Phase -/
def r19_0 : Reg := ⟨[⟨(some 2), (.mv (.c (.int .i64 0))), none, 0⟩], [], 0, false, []⟩
def r19_1 : Reg := ⟨[⟨(some 3), (.mv (.t 0)), none, 0⟩, ⟨(some 4), (.bin .and (.int .i64) (.t 3) (.c (.int .i64 4294967295))), none, 0⟩, ⟨(some 5), (.bin .shr (.int .i64) (.t 4) (.c (.int .u64 27))), none, 0⟩, ⟨(some 2), (.mv (.t 5)), none, 0⟩], [3, 4, 5], 0, false, []⟩
def sf19 : SFn := { np := 1, vars := [0, 2], body := (.seq (.reg r19_0) (.seq (.reg r19_1) (.seq (.kill [0]) .ret))), res := [(.tmp 2)] }
/-! calliope/calliopelaw42.get -/
def r20_0 : Reg := ⟨[⟨(some 4), (.mv (.c (.int .i64 0))), none, 0⟩], [], 0, false, []⟩
def r20_1 : Reg := ⟨[⟨(some 5), (.mv (.t 1)), none, 0⟩, ⟨(some 6), (.bin .lss (.int .i64) (.t 5) (.c (.int .i64 0))), none, 0⟩], [5], 0, false, []⟩
def r20_2 : Reg := ⟨[⟨(some 1), (.mv (.c (.int .i64 0))), none, 0⟩], [], 0, false, []⟩
def r20_3 : Reg := ⟨[⟨(some 7), (.mv (.t 1)), none, 0⟩, ⟨(some 8), (.mv (.t 0)), none, 0⟩, ⟨(some 9), (.len .slice (.t 8)), none, 0⟩, ⟨(some 10), (.bin .geq (.int .i64) (.t 7) (.t 9)), none, 0⟩], [7, 8, 9], 0, false, []⟩
def r20_4 : Reg := ⟨[⟨(some 11), (.mv (.t 0)), none, 0⟩, ⟨(some 12), (.len .slice (.t 11)), none, 0⟩, ⟨(some 13), (.bin .sub (.int .i64) (.t 12) (.c (.int .i64 1))), none, 0⟩, ⟨(some 1), (.mv (.t 13)), none, 0⟩], [11, 12, 13], 0, false, []⟩
def r20_5 : Reg := ⟨[⟨(some 14), (.mv (.t 0)), none, 0⟩, ⟨(some 15), (.mv (.t 1)), none, 0⟩, ⟨(some 16), (.idxS 1 (.t 14) (.t 15)), none, 0⟩, ⟨(some 17), (.load none (.t 16)), none, 0⟩, ⟨(some 4), (.mv (.t 17)), none, 0⟩], [14, 15, 16, 17], 0, false, []⟩
def sf20 : SFn := { np := 2, vars := [0, 1, 4, 6, 10], body := (.seq (.reg r20_0) (.seq (.seq (.reg r20_1) (.cond (.t 6) (.reg r20_2) .skip)) (.seq (.seq (.reg r20_3) (.cond (.t 10) (.reg r20_4) .skip)) (.seq (.reg r20_5) (.seq (.kill [0, 1, 6, 10]) .ret))))), res := [(.tmp 4)] }
/-! calliope/num.Abs -/
def r21_0 : Reg := ⟨[⟨(some 2), (.mv (.c (.int .i64 0))), none, 0⟩], [], 0, false, []⟩
def r21_1 : Reg := ⟨[⟨(some 4), (.mv (.t 0)), none, 0⟩, ⟨(some 5), (.bin .eql (.int .i64) (.t 4) (.c (.int .i64 (-9223372036854775808)))), none, 0⟩, ⟨(some 3), (.mv (.t 5)), none, 0⟩], [4, 5], 0, false, []⟩
def r21_2 : Reg := ⟨[⟨(some 2), (.mv (.c (.int .i64 9223372036854775807))), none, 0⟩], [], 0, false, []⟩
def r21_3 : Reg := ⟨[⟨(some 7), (.mv (.t 0)), none, 0⟩, ⟨(some 8), (.bin .lss (.int .i64) (.t 7) (.c (.int .i64 0))), none, 0⟩, ⟨(some 6), (.mv (.t 8)), none, 0⟩], [7, 8], 0, false, []⟩
def r21_4 : Reg := ⟨[⟨(some 9), (.mv (.t 0)), none, 0⟩, ⟨(some 10), (.un .neg (.t 9)), none, 0⟩, ⟨(some 2), (.mv (.t 10)), none, 0⟩], [9, 10], 0, false, []⟩
def r21_5 : Reg := ⟨[⟨(some 11), (.mv (.t 0)), none, 0⟩, ⟨(some 2), (.mv (.t 11)), none, 0⟩], [11], 0, false, []⟩
def sf21 : SFn := { np := 1, vars := [0, 2, 3, 6], body := (.seq (.reg r21_0) (.seq (.block 0 (.seq (.reg r21_1) (.cond (.t 3) (.seq (.reg r21_2) (.seq (.kill [0, 3, 6]) .ret)) (.seq (.reg r21_3) (.cond (.t 6) (.seq (.reg r21_4) (.seq (.kill [0, 3, 6]) .ret)) .skip))))) (.seq (.reg r21_5) (.seq (.kill [0, 3, 6]) .ret)))), res := [(.tmp 2)] }
/-! calliope/num.Sat -/
def r22_0 : Reg := ⟨[⟨(some 2), (.mv (.c (.int .i64 0))), none, 0⟩], [], 0, false, []⟩
def r22_1 : Reg := ⟨[⟨(some 3), (.mv (.t 0)), none, 0⟩, ⟨(some 4), (.callP 26 [(.t 3), (.c (.int .i64 (-32768))), (.c (.int .i64 32767))]), none, 0⟩, ⟨(some 2), (.mv (.t 4)), none, 0⟩], [3, 4], 0, false, []⟩
def sf22 : SFn := { np := 1, vars := [0, 2], body := (.seq (.reg r22_0) (.seq (.reg r22_1) (.seq (.kill [0]) .ret))), res := [(.tmp 2)] }
/-! calliope/rate.cut -/
def r23_0 : Reg := ⟨[⟨(some 6), (.mv (.c (.int .i64 0))), none, 0⟩], [], 0, false, []⟩
def r23_1 : Reg := ⟨[⟨(some 7), (.mv (.t 0)), none, 0⟩, ⟨(some 8), (.bin .lss (.int .i64) (.t 7) (.c (.int .i64 0))), none, 0⟩], [7], 0, false, []⟩
def r23_2 : Reg := ⟨[⟨(some 9), (.mv (.t 0)), none, 0⟩, ⟨(some 10), (.un .neg (.t 9)), none, 0⟩, ⟨(some 11), (.mv (.t 1)), none, 0⟩, ⟨(some 12), (.bin .mul (.int .i64) (.t 10) (.t 11)), none, 0⟩, ⟨(some 13), (.mv (.t 2)), none, 0⟩, ⟨(some 14), (.callP 27 [(.t 12), (.t 13)]), none, 0⟩, ⟨(some 15), (.un .neg (.t 14)), none, 0⟩, ⟨(some 6), (.mv (.t 15)), none, 0⟩], [9, 10, 11, 12, 13, 14, 15], 0, false, []⟩
def r23_3 : Reg := ⟨[⟨(some 16), (.mv (.t 0)), none, 0⟩, ⟨(some 17), (.mv (.t 1)), none, 0⟩, ⟨(some 18), (.bin .mul (.int .i64) (.t 16) (.t 17)), none, 0⟩, ⟨(some 19), (.mv (.t 2)), none, 0⟩, ⟨(some 20), (.callP 27 [(.t 18), (.t 19)]), none, 0⟩, ⟨(some 6), (.mv (.t 20)), none, 0⟩], [16, 17, 18, 19, 20], 0, false, []⟩
def sf23 : SFn := { np := 3, vars := [0, 1, 2, 6, 8], body := (.seq (.reg r23_0) (.seq (.seq (.reg r23_1) (.cond (.t 8) (.seq (.reg r23_2) (.seq (.kill [0, 1, 2, 8]) .ret)) .skip)) (.seq (.reg r23_3) (.seq (.kill [0, 1, 2, 8]) .ret)))), res := [(.tmp 6)] }
/-! calliope/table.Taps -/
def r24_0 : Reg := ⟨[⟨(some 2), (.alloc (.ints .i64 [0, 0, 0, 0])), none, 0⟩], [], 1, true, []⟩
def r24_1 : Reg := ⟨[⟨(some 4), (.mv (.t 0)), none, 0⟩, ⟨(some 5), (.bin .lss (.int .i64) (.t 4) (.c (.int .i64 0))), none, 0⟩, ⟨(some 6), (.mv (.t 5)), none, 0⟩, ⟨(some 7), (.mv (.t 0)), (some (6, false)), 0⟩, ⟨(some 8), (.bin .geq (.int .i64) (.t 7) (.c (.int .i64 32))), (some (6, false)), 0⟩, ⟨(some 9), (.pick (.t 6) (.c (.bool true)) (.t 8)), none, 0⟩], [4, 5, 6, 7, 8], 0, false, []⟩
def r24_2 : Reg := ⟨[⟨(some 10), (.build (.ints .i64 [0, 0, 0, 0]) []), none, 0⟩, ⟨none, (.store 4 (.t 2) (.t 10)), none, 0⟩], [10], 0, false, []⟩
def r24_3 : Reg := ⟨[⟨(some 11), (.mv (.t 0)), none, 0⟩, ⟨(some 3), (.mv (.t 11)), none, 0⟩], [11], 0, false, []⟩
def r24_4 : Reg := ⟨[⟨(some 12), (.mv (.t 3)), none, 0⟩, ⟨(some 13), (.un .neg (.t 12)), none, 0⟩, ⟨(some 14), (.mv (.t 3)), none, 0⟩, ⟨(some 15), (.bin .mul (.int .i64) (.t 13) (.t 14)), none, 0⟩, ⟨(some 16), (.mv (.t 3)), none, 0⟩, ⟨(some 17), (.bin .mul (.int .i64) (.t 15) (.t 16)), none, 0⟩, ⟨(some 18), (.mv (.t 3)), none, 0⟩, ⟨(some 19), (.bin .mul (.int .i64) (.c (.int .i64 64)) (.t 18)), none, 0⟩, ⟨(some 20), (.mv (.t 3)), none, 0⟩, ⟨(some 21), (.bin .mul (.int .i64) (.t 19) (.t 20)), none, 0⟩, ⟨(some 22), (.bin .add (.int .i64) (.t 17) (.t 21)), none, 0⟩, ⟨(some 23), (.mv (.t 3)), none, 0⟩, ⟨(some 24), (.bin .mul (.int .i64) (.c (.int .i64 1024)) (.t 23)), none, 0⟩, ⟨(some 25), (.bin .sub (.int .i64) (.t 22) (.t 24)), none, 0⟩, ⟨(some 26), (.mv (.t 3)), none, 0⟩, ⟨(some 27), (.bin .mul (.int .i64) (.c (.int .i64 3)) (.t 26)), none, 0⟩, ⟨(some 28), (.mv (.t 3)), none, 0⟩, ⟨(some 29), (.bin .mul (.int .i64) (.t 27) (.t 28)), none, 0⟩, ⟨(some 30), (.mv (.t 3)), none, 0⟩, ⟨(some 31), (.bin .mul (.int .i64) (.t 29) (.t 30)), none, 0⟩, ⟨(some 32), (.mv (.t 3)), none, 0⟩, ⟨(some 33), (.bin .mul (.int .i64) (.c (.int .i64 160)) (.t 32)), none, 0⟩, ⟨(some 34), (.mv (.t 3)), none, 0⟩, ⟨(some 35), (.bin .mul (.int .i64) (.t 33) (.t 34)), none, 0⟩, ⟨(some 36), (.bin .sub (.int .i64) (.t 31) (.t 35)), none, 0⟩, ⟨(some 37), (.bin .add (.int .i64) (.t 36) (.c (.int .i64 65536))), none, 0⟩, ⟨(some 38), (.mv (.t 3)), none, 0⟩, ⟨(some 39), (.bin .mul (.int .i64) (.c (.int .i64 (-3))) (.t 38)), none, 0⟩, ⟨(some 40), (.mv (.t 3)), none, 0⟩, ⟨(some 41), (.bin .mul (.int .i64) (.t 39) (.t 40)), none, 0⟩, ⟨(some 42), (.mv (.t 3)), none, 0⟩, ⟨(some 43), (.bin .mul (.int .i64) (.t 41) (.t 42)), none, 0⟩, ⟨(some 44), (.mv (.t 3)), none, 0⟩, ⟨(some 45), (.bin .mul (.int .i64) (.c (.int .i64 128)) (.t 44)), none, 0⟩, ⟨(some 46), (.mv (.t 3)), none, 0⟩, ⟨(some 47), (.bin .mul (.int .i64) (.t 45) (.t 46)), none, 0⟩, ⟨(some 48), (.bin .add (.int .i64) (.t 43) (.t 47)), none, 0⟩, ⟨(some 49), (.mv (.t 3)), none, 0⟩, ⟨(some 50), (.bin .mul (.int .i64) (.c (.int .i64 1024)) (.t 49)), none, 0⟩, ⟨(some 51), (.bin .add (.int .i64) (.t 48) (.t 50)), none, 0⟩, ⟨(some 52), (.mv (.t 3)), none, 0⟩, ⟨(some 53), (.mv (.t 3)), none, 0⟩, ⟨(some 54), (.bin .mul (.int .i64) (.t 52) (.t 53)), none, 0⟩, ⟨(some 55), (.mv (.t 3)), none, 0⟩, ⟨(some 56), (.bin .mul (.int .i64) (.t 54) (.t 55)), none, 0⟩, ⟨(some 57), (.mv (.t 3)), none, 0⟩, ⟨(some 58), (.bin .mul (.int .i64) (.c (.int .i64 32)) (.t 57)), none, 0⟩, ⟨(some 59), (.mv (.t 3)), none, 0⟩, ⟨(some 60), (.bin .mul (.int .i64) (.t 58) (.t 59)), none, 0⟩, ⟨(some 61), (.bin .sub (.int .i64) (.t 56) (.t 60)), none, 0⟩, ⟨(some 62), (.build (.ints .i64 [0, 0, 0, 0]) [(0, 1, (.t 25)), (1, 1, (.t 37)), (2, 1, (.t 51)), (3, 1, (.t 61))]), none, 0⟩, ⟨none, (.store 4 (.t 2) (.t 62)), none, 0⟩], [12, 13, 14, 15, 16, 17, 18, 19, 20, 21, 22, 23, 24, 25, 26, 27, 28, 29, 30, 31, 32, 33, 34, 35, 36, 37, 38, 39, 40, 41, 42, 43, 44, 45, 46, 47, 48, 49, 50, 51, 52, 53, 54, 55, 56, 57, 58, 59, 60, 61, 62], 0, false, []⟩
def sf24 : SFn := { np := 1, vars := [0, 2, 3, 9], body := (.seq (.reg r24_0) (.seq (.seq (.reg r24_1) (.cond (.t 9) (.seq (.reg r24_2) (.seq (.kill [0, 3, 9]) .ret)) .skip)) (.seq (.reg r24_3) (.seq (.reg r24_4) (.seq (.kill [0, 3, 9]) .ret))))), res := [(.cell 2 (some 4))] }
/-! calliope/num.Round -/
def r25_0 : Reg := ⟨[⟨(some 4), (.mv (.c (.int .i64 0))), none, 0⟩], [], 0, false, []⟩
def r25_1 : Reg := ⟨[⟨(some 6), (.mv (.t 1)), none, 0⟩, ⟨(some 7), (.bin .lss (.int .i64) (.t 6) (.c (.int .i64 0))), none, 0⟩, ⟨(some 8), (.mv (.t 7)), none, 0⟩, ⟨(some 9), (.mv (.t 1)), (some (8, false)), 0⟩, ⟨(some 10), (.bin .gtr (.int .i64) (.t 9) (.c (.int .i64 62))), (some (8, false)), 0⟩, ⟨(some 11), (.pick (.t 8) (.c (.bool true)) (.t 10)), none, 0⟩, ⟨(some 5), (.mv (.t 11)), none, 0⟩], [6, 7, 8, 9, 10, 11], 0, false, []⟩
def r25_2 : Reg := ⟨[⟨(some 4), (.mv (.c (.int .i64 0))), none, 0⟩], [], 0, false, []⟩
def r25_3 : Reg := ⟨[⟨(some 13), (.mv (.t 1)), none, 0⟩, ⟨(some 14), (.bin .eql (.int .i64) (.t 13) (.c (.int .i64 0))), none, 0⟩, ⟨(some 12), (.mv (.t 14)), none, 0⟩], [13, 14], 0, false, []⟩
def r25_4 : Reg := ⟨[⟨(some 15), (.mv (.t 0)), none, 0⟩, ⟨(some 4), (.mv (.t 15)), none, 0⟩], [15], 0, false, []⟩
def r25_5 : Reg := ⟨[⟨(some 16), (.mv (.t 0)), none, 0⟩, ⟨(some 17), (.mv (.t 1)), none, 0⟩, ⟨(some 18), (.bin .shr (.int .i64) (.t 16) (.t 17)), none, 0⟩, ⟨(some 19), (.mv (.t 0)), none, 0⟩, ⟨(some 20), (.mv (.t 1)), none, 0⟩, ⟨(some 21), (.bin .sub (.int .i64) (.t 20) (.c (.int .i64 1))), none, 0⟩, ⟨(some 22), (.bin .shr (.int .i64) (.t 19) (.t 21)), none, 0⟩, ⟨(some 23), (.bin .and (.int .i64) (.t 22) (.c (.int .i64 1))), none, 0⟩, ⟨(some 24), (.bin .add (.int .i64) (.t 18) (.t 23)), none, 0⟩, ⟨(some 4), (.mv (.t 24)), none, 0⟩], [16, 17, 18, 19, 20, 21, 22, 23, 24], 0, false, []⟩
def sf25 : SFn := { np := 2, vars := [0, 1, 4, 5, 12], body := (.seq (.reg r25_0) (.seq (.block 0 (.seq (.reg r25_1) (.cond (.t 5) (.seq (.reg r25_2) (.seq (.kill [0, 1, 5, 12]) .ret)) (.seq (.reg r25_3) (.cond (.t 12) (.seq (.reg r25_4) (.seq (.kill [0, 1, 5, 12]) .ret)) .skip))))) (.seq (.reg r25_5) (.seq (.kill [0, 1, 5, 12]) .ret)))), res := [(.tmp 4)] }
/-! calliope/num.Clamp -/
def r26_0 : Reg := ⟨[⟨(some 6), (.mv (.c (.int .i64 0))), none, 0⟩], [], 0, false, []⟩
def r26_1 : Reg := ⟨[⟨(some 8), (.mv (.t 0)), none, 0⟩, ⟨(some 9), (.mv (.t 1)), none, 0⟩, ⟨(some 10), (.bin .lss (.int .i64) (.t 8) (.t 9)), none, 0⟩, ⟨(some 11), (.mv (.t 10)), none, 0⟩, ⟨(some 12), (.mv (.t 2)), (some (11, false)), 0⟩, ⟨(some 13), (.mv (.t 1)), (some (11, false)), 0⟩, ⟨(some 14), (.bin .lss (.int .i64) (.t 12) (.t 13)), (some (11, false)), 0⟩, ⟨(some 15), (.pick (.t 11) (.c (.bool true)) (.t 14)), none, 0⟩, ⟨(some 7), (.mv (.t 15)), none, 0⟩], [8, 9, 10, 11, 12, 13, 14, 15], 0, false, []⟩
def r26_2 : Reg := ⟨[⟨(some 16), (.mv (.t 1)), none, 0⟩, ⟨(some 6), (.mv (.t 16)), none, 0⟩], [16], 0, false, []⟩
def r26_3 : Reg := ⟨[⟨(some 18), (.mv (.t 0)), none, 0⟩, ⟨(some 19), (.mv (.t 2)), none, 0⟩, ⟨(some 20), (.bin .gtr (.int .i64) (.t 18) (.t 19)), none, 0⟩, ⟨(some 17), (.mv (.t 20)), none, 0⟩], [18, 19, 20], 0, false, []⟩
def r26_4 : Reg := ⟨[⟨(some 21), (.mv (.t 2)), none, 0⟩, ⟨(some 6), (.mv (.t 21)), none, 0⟩], [21], 0, false, []⟩
def r26_5 : Reg := ⟨[⟨(some 22), (.mv (.t 0)), none, 0⟩, ⟨(some 6), (.mv (.t 22)), none, 0⟩], [22], 0, false, []⟩
def sf26 : SFn := { np := 3, vars := [0, 1, 2, 6, 7, 17], body := (.seq (.reg r26_0) (.seq (.block 0 (.seq (.reg r26_1) (.cond (.t 7) (.seq (.reg r26_2) (.seq (.kill [0, 1, 2, 7, 17]) .ret)) (.seq (.reg r26_3) (.cond (.t 17) (.seq (.reg r26_4) (.seq (.kill [0, 1, 2, 7, 17]) .ret)) .skip))))) (.seq (.reg r26_5) (.seq (.kill [0, 1, 2, 7, 17]) .ret)))), res := [(.tmp 6)] }
/-! calliope/num.Floor -/
def r27_0 : Reg := ⟨[⟨(some 4), (.mv (.c (.int .i64 0))), none, 0⟩], [], 0, false, []⟩
def r27_1 : Reg := ⟨[⟨(some 6), (.mv (.t 1)), none, 0⟩, ⟨(some 7), (.bin .lss (.int .i64) (.t 6) (.c (.int .i64 1))), none, 0⟩], [6], 0, false, []⟩
def r27_2 : Reg := ⟨[⟨(some 4), (.mv (.c (.int .i64 0))), none, 0⟩], [], 0, false, []⟩
def r27_3 : Reg := ⟨[⟨(some 8), (.mv (.t 0)), none, 0⟩, ⟨(some 9), (.mv (.t 1)), none, 0⟩, ⟨(some 10), (.bin .quo (.int .i64) (.t 8) (.t 9)), none, 0⟩, ⟨(some 5), (.mv (.t 10)), none, 0⟩], [8, 9, 10], 0, false, []⟩
def r27_4 : Reg := ⟨[⟨(some 11), (.mv (.t 0)), none, 0⟩, ⟨(some 12), (.mv (.t 1)), none, 0⟩, ⟨(some 13), (.bin .rem (.int .i64) (.t 11) (.t 12)), none, 0⟩, ⟨(some 14), (.bin .lss (.int .i64) (.t 13) (.c (.int .i64 0))), none, 0⟩], [11, 12, 13], 0, false, []⟩
def r27_5 : Reg := ⟨[⟨(some 15), (.mv (.t 5)), none, 0⟩, ⟨(some 16), (.bin .sub (.int .i64) (.t 15) (.c (.int .i64 1))), none, 0⟩, ⟨(some 5), (.mv (.t 16)), none, 0⟩], [15, 16], 0, false, []⟩
def r27_6 : Reg := ⟨[⟨(some 17), (.mv (.t 5)), none, 0⟩, ⟨(some 4), (.mv (.t 17)), none, 0⟩], [17], 0, false, []⟩
def sf27 : SFn := { np := 2, vars := [0, 1, 4, 5, 7, 14], body := (.seq (.reg r27_0) (.seq (.seq (.reg r27_1) (.cond (.t 7) (.seq (.reg r27_2) (.seq (.kill [0, 1, 5, 7, 14]) .ret)) .skip)) (.seq (.reg r27_3) (.seq (.seq (.reg r27_4) (.cond (.t 14) (.reg r27_5) .skip)) (.seq (.reg r27_6) (.seq (.kill [0, 1, 5, 7, 14]) .ret)))))), res := [(.tmp 4)] }
theorem c3 : cFn Try.prog 3 = some sf3 := by kernel_rfl
theorem k3 : callable Try.prog 3 = true := by kernel_rfl
theorem p3 : ∀ F, Try.prog.funcs[3]? = some F → F.params.size ≤ F.ntmps := fun F h => by rw [Try.func3] at h; cases h; exact of_decide_eq_true (by kernel_rfl)
theorem c4 : cFn Try.prog 4 = some sf4 := by kernel_rfl
theorem k4 : callable Try.prog 4 = true := by kernel_rfl
theorem p4 : ∀ F, Try.prog.funcs[4]? = some F → F.params.size ≤ F.ntmps := fun F h => by rw [Try.func4] at h; cases h; exact of_decide_eq_true (by kernel_rfl)
theorem c5 : cFn Try.prog 5 = some sf5 := by kernel_rfl
theorem k5 : callable Try.prog 5 = true := by kernel_rfl
theorem p5 : ∀ F, Try.prog.funcs[5]? = some F → F.params.size ≤ F.ntmps := fun F h => by rw [Try.func5] at h; cases h; exact of_decide_eq_true (by kernel_rfl)
theorem c6 : cFn Try.prog 6 = some sf6 := by kernel_rfl
theorem k6 : callable Try.prog 6 = true := by kernel_rfl
theorem p6 : ∀ F, Try.prog.funcs[6]? = some F → F.params.size ≤ F.ntmps := fun F h => by rw [Try.func6] at h; cases h; exact of_decide_eq_true (by kernel_rfl)
theorem c7 : cFn Try.prog 7 = some sf7 := by kernel_rfl
theorem k7 : callable Try.prog 7 = true := by kernel_rfl
theorem p7 : ∀ F, Try.prog.funcs[7]? = some F → F.params.size ≤ F.ntmps := fun F h => by rw [Try.func7] at h; cases h; exact of_decide_eq_true (by kernel_rfl)
theorem c8 : cFn Try.prog 8 = some sf8 := by kernel_rfl
theorem k8 : callable Try.prog 8 = true := by kernel_rfl
theorem p8 : ∀ F, Try.prog.funcs[8]? = some F → F.params.size ≤ F.ntmps := fun F h => by rw [Try.func8] at h; cases h; exact of_decide_eq_true (by kernel_rfl)
theorem c9 : cFn Try.prog 9 = some sf9 := by kernel_rfl
theorem k9 : callable Try.prog 9 = true := by kernel_rfl
theorem p9 : ∀ F, Try.prog.funcs[9]? = some F → F.params.size ≤ F.ntmps := fun F h => by rw [Try.func9] at h; cases h; exact of_decide_eq_true (by kernel_rfl)
theorem c10 : cFn Try.prog 10 = some sf10 := by kernel_rfl
theorem k10 : callable Try.prog 10 = true := by kernel_rfl
theorem p10 : ∀ F, Try.prog.funcs[10]? = some F → F.params.size ≤ F.ntmps := fun F h => by rw [Try.func10] at h; cases h; exact of_decide_eq_true (by kernel_rfl)
theorem c11 : cFn Try.prog 11 = some sf11 := by kernel_rfl
theorem k11 : callable Try.prog 11 = true := by kernel_rfl
theorem p11 : ∀ F, Try.prog.funcs[11]? = some F → F.params.size ≤ F.ntmps := fun F h => by rw [Try.func11] at h; cases h; exact of_decide_eq_true (by kernel_rfl)
theorem c12 : cFn Try.prog 12 = some sf12 := by kernel_rfl
theorem k12 : callable Try.prog 12 = true := by kernel_rfl
theorem p12 : ∀ F, Try.prog.funcs[12]? = some F → F.params.size ≤ F.ntmps := fun F h => by rw [Try.func12] at h; cases h; exact of_decide_eq_true (by kernel_rfl)
theorem c13 : cFn Try.prog 13 = some sf13 := by kernel_rfl
theorem k13 : callable Try.prog 13 = true := by kernel_rfl
theorem p13 : ∀ F, Try.prog.funcs[13]? = some F → F.params.size ≤ F.ntmps := fun F h => by rw [Try.func13] at h; cases h; exact of_decide_eq_true (by kernel_rfl)
theorem c14 : cFn Try.prog 14 = some sf14 := by kernel_rfl
theorem k14 : callable Try.prog 14 = true := by kernel_rfl
theorem p14 : ∀ F, Try.prog.funcs[14]? = some F → F.params.size ≤ F.ntmps := fun F h => by rw [Try.func14] at h; cases h; exact of_decide_eq_true (by kernel_rfl)
theorem c15 : cFn Try.prog 15 = some sf15 := by kernel_rfl
theorem k15 : callable Try.prog 15 = true := by kernel_rfl
theorem p15 : ∀ F, Try.prog.funcs[15]? = some F → F.params.size ≤ F.ntmps := fun F h => by rw [Try.func15] at h; cases h; exact of_decide_eq_true (by kernel_rfl)
theorem c16 : cFn Try.prog 16 = some sf16 := by kernel_rfl
theorem k16 : callable Try.prog 16 = true := by kernel_rfl
theorem p16 : ∀ F, Try.prog.funcs[16]? = some F → F.params.size ≤ F.ntmps := fun F h => by rw [Try.func16] at h; cases h; exact of_decide_eq_true (by kernel_rfl)
theorem c17 : cFn Try.prog 17 = some sf17 := by kernel_rfl
theorem k17 : callable Try.prog 17 = true := by kernel_rfl
theorem p17 : ∀ F, Try.prog.funcs[17]? = some F → F.params.size ≤ F.ntmps := fun F h => by rw [Try.func17] at h; cases h; exact of_decide_eq_true (by kernel_rfl)
theorem c18 : cFn Try.prog 18 = some sf18 := by kernel_rfl
theorem k18 : callable Try.prog 18 = true := by kernel_rfl
theorem p18 : ∀ F, Try.prog.funcs[18]? = some F → F.params.size ≤ F.ntmps := fun F h => by rw [Try.func18] at h; cases h; exact of_decide_eq_true (by kernel_rfl)
theorem c19 : cFn Try.prog 19 = some sf19 := by kernel_rfl
theorem k19 : callable Try.prog 19 = true := by kernel_rfl
theorem p19 : ∀ F, Try.prog.funcs[19]? = some F → F.params.size ≤ F.ntmps := fun F h => by rw [Try.func19] at h; cases h; exact of_decide_eq_true (by kernel_rfl)
theorem c20 : cFn Try.prog 20 = some sf20 := by kernel_rfl
theorem k20 : callable Try.prog 20 = true := by kernel_rfl
theorem p20 : ∀ F, Try.prog.funcs[20]? = some F → F.params.size ≤ F.ntmps := fun F h => by rw [Try.func20] at h; cases h; exact of_decide_eq_true (by kernel_rfl)
theorem c21 : cFn Try.prog 21 = some sf21 := by kernel_rfl
theorem k21 : callable Try.prog 21 = true := by kernel_rfl
theorem p21 : ∀ F, Try.prog.funcs[21]? = some F → F.params.size ≤ F.ntmps := fun F h => by rw [Try.func21] at h; cases h; exact of_decide_eq_true (by kernel_rfl)
theorem c22 : cFn Try.prog 22 = some sf22 := by kernel_rfl
theorem k22 : callable Try.prog 22 = true := by kernel_rfl
theorem p22 : ∀ F, Try.prog.funcs[22]? = some F → F.params.size ≤ F.ntmps := fun F h => by rw [Try.func22] at h; cases h; exact of_decide_eq_true (by kernel_rfl)
theorem c23 : cFn Try.prog 23 = some sf23 := by kernel_rfl
theorem k23 : callable Try.prog 23 = true := by kernel_rfl
theorem p23 : ∀ F, Try.prog.funcs[23]? = some F → F.params.size ≤ F.ntmps := fun F h => by rw [Try.func23] at h; cases h; exact of_decide_eq_true (by kernel_rfl)
theorem c24 : cFn Try.prog 24 = some sf24 := by kernel_rfl
theorem k24 : callable Try.prog 24 = true := by kernel_rfl
theorem p24 : ∀ F, Try.prog.funcs[24]? = some F → F.params.size ≤ F.ntmps := fun F h => by rw [Try.func24] at h; cases h; exact of_decide_eq_true (by kernel_rfl)
theorem c25 : cFn Try.prog 25 = some sf25 := by kernel_rfl
theorem k25 : callable Try.prog 25 = true := by kernel_rfl
theorem p25 : ∀ F, Try.prog.funcs[25]? = some F → F.params.size ≤ F.ntmps := fun F h => by rw [Try.func25] at h; cases h; exact of_decide_eq_true (by kernel_rfl)
theorem c26 : cFn Try.prog 26 = some sf26 := by kernel_rfl
theorem k26 : callable Try.prog 26 = true := by kernel_rfl
theorem p26 : ∀ F, Try.prog.funcs[26]? = some F → F.params.size ≤ F.ntmps := fun F h => by rw [Try.func26] at h; cases h; exact of_decide_eq_true (by kernel_rfl)
theorem c27 : cFn Try.prog 27 = some sf27 := by kernel_rfl
theorem k27 : callable Try.prog 27 = true := by kernel_rfl
theorem p27 : ∀ F, Try.prog.funcs[27]? = some F → F.params.size ≤ F.ntmps := fun F h => by rw [Try.func27] at h; cases h; exact of_decide_eq_true (by kernel_rfl)
def tab : FuncId → Option SFn := tabL [(3, sf3), (4, sf4), (5, sf5), (6, sf6), (7, sf7), (8, sf8), (9, sf9), (10, sf10), (11, sf11), (12, sf12), (13, sf13), (14, sf14), (15, sf15), (16, sf16), (17, sf17), (18, sf18), (19, sf19), (20, sf20), (21, sf21), (22, sf22), (23, sf23), (24, sf24), (25, sf25), (26, sf26), (27, sf27)]
theorem tabOk : TabOk Try.prog tab :=
  tabOk_cons c3 k3 p3 (tabOk_cons c4 k4 p4 (tabOk_cons c5 k5 p5 (tabOk_cons c6 k6 p6 (tabOk_cons c7 k7 p7 (tabOk_cons c8 k8 p8 (tabOk_cons c9 k9 p9 (tabOk_cons c10 k10 p10 (tabOk_cons c11 k11 p11 (tabOk_cons c12 k12 p12 (tabOk_cons c13 k13 p13 (tabOk_cons c14 k14 p14 (tabOk_cons c15 k15 p15 (tabOk_cons c16 k16 p16 (tabOk_cons c17 k17 p17 (tabOk_cons c18 k18 p18 (tabOk_cons c19 k19 p19 (tabOk_cons c20 k20 p20 (tabOk_cons c21 k21 p21 (tabOk_cons c22 k22 p22 (tabOk_cons c23 k23 p23 (tabOk_cons c24 k24 p24 (tabOk_cons c25 k25 p25 (tabOk_cons c26 k26 p26 (tabOk_cons c27 k27 p27 (tabOk_nil _)))))))))))))))))))))))))
theorem t3 : tab 3 = some sf3 := rfl
theorem t4 : tab 4 = some sf4 := rfl
theorem t5 : tab 5 = some sf5 := rfl
theorem t6 : tab 6 = some sf6 := rfl
theorem t7 : tab 7 = some sf7 := rfl
theorem t8 : tab 8 = some sf8 := rfl
theorem t9 : tab 9 = some sf9 := rfl
theorem t10 : tab 10 = some sf10 := rfl
theorem t11 : tab 11 = some sf11 := rfl
theorem t12 : tab 12 = some sf12 := rfl
theorem t13 : tab 13 = some sf13 := rfl
theorem t14 : tab 14 = some sf14 := rfl
theorem t15 : tab 15 = some sf15 := rfl
theorem t16 : tab 16 = some sf16 := rfl
theorem t17 : tab 17 = some sf17 := rfl
theorem t18 : tab 18 = some sf18 := rfl
theorem t19 : tab 19 = some sf19 := rfl
theorem t20 : tab 20 = some sf20 := rfl
theorem t21 : tab 21 = some sf21 := rfl
theorem t22 : tab 22 = some sf22 := rfl
theorem t23 : tab 23 = some sf23 := rfl
theorem t24 : tab 24 = some sf24 := rfl
theorem t25 : tab 25 = some sf25 := rfl
theorem t26 : tab 26 = some sf26 := rfl
theorem t27 : tab 27 = some sf27 := rfl
end Go.Proofs.Ytkbjemencmaloaa
