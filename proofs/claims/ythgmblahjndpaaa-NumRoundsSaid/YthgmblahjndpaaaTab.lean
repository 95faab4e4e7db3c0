/-
  The abstract forms of this seat's functions, by program, and that they are the ones that the model's code has. Conditions: none.
-/
import Derived.Test.YthgmblahjndpaaaRows
import Derived.Test.YthgmblahjndpaaaSxP
namespace Go.Proofs.Ythgmblahjndpaaa
open Go Go.Sx
set_option maxRecDepth 100000
/-! calliope/calliopelaw03.NumRounds -/
def r3_0 : Reg := ⟨[⟨(some 4), (.mv (.c (.bool false))), none, 0⟩], [], 0, false, []⟩
def r3_1 : Reg := ⟨[⟨(some 11), (.mv (.t 1)), none, 0⟩, ⟨(some 12), (.bin .lss (.int .i64) (.t 11) (.c (.int .i64 0))), none, 0⟩, ⟨(some 13), (.mv (.t 12)), none, 0⟩, ⟨(some 14), (.mv (.t 1)), (some (13, false)), 0⟩, ⟨(some 15), (.bin .gtr (.int .i64) (.t 14) (.c (.int .i64 62))), (some (13, false)), 0⟩, ⟨(some 16), (.pick (.t 13) (.c (.bool true)) (.t 15)), none, 0⟩], [11, 12, 13, 14, 15], 0, false, []⟩
def r3_2 : Reg := ⟨[⟨(some 17), (.mv (.t 0)), none, 0⟩, ⟨(some 18), (.mv (.t 1)), none, 0⟩, ⟨(some 19), (.callP 8 [(.t 17), (.t 18)]), none, 0⟩, ⟨(some 20), (.bin .eql (.int .i64) (.t 19) (.c (.int .i64 0))), none, 0⟩, ⟨(some 21), (.mv (.t 20)), none, 0⟩, ⟨(some 22), (.mv (.t 0)), (some (21, true)), 0⟩, ⟨(some 23), (.mv (.t 1)), (some (21, true)), 0⟩, ⟨(some 24), (.callP 9 [(.t 22), (.t 23)]), (some (21, true)), 0⟩, ⟨(some 25), (.bin .eql (.int .i64) (.t 24) (.c (.int .i64 0))), (some (21, true)), 0⟩, ⟨(some 26), (.pick (.t 21) (.t 25) (.c (.bool false))), none, 0⟩, ⟨(some 27), (.mv (.t 26)), none, 0⟩, ⟨(some 28), (.mv (.t 0)), (some (27, true)), 0⟩, ⟨(some 29), (.mv (.t 1)), (some (27, true)), 0⟩, ⟨(some 30), (.callP 10 [(.t 28), (.t 29)]), (some (27, true)), 0⟩, ⟨(some 31), (.bin .eql (.int .i64) (.t 30) (.c (.int .i64 0))), (some (27, true)), 0⟩, ⟨(some 32), (.pick (.t 27) (.t 31) (.c (.bool false))), none, 0⟩, ⟨(some 33), (.mv (.t 32)), none, 0⟩, ⟨(some 34), (.callP 11 []), (some (33, true)), 0⟩, ⟨(some 35), (.pick (.t 33) (.t 34) (.c (.bool false))), none, 0⟩, ⟨(some 4), (.mv (.t 35)), none, 0⟩], [17, 18, 19, 20, 21, 22, 23, 24, 25, 26, 27, 28, 29, 30, 31, 32, 33, 34, 35], 0, false, []⟩
def r3_3 : Reg := ⟨[⟨(some 36), (.mv (.t 1)), none, 0⟩, ⟨(some 37), (.callP 12 [(.t 36)]), none, 0⟩, ⟨(some 5), (.mv (.t 37)), none, 0⟩], [36, 37], 0, false, []⟩
def r3_4 : Reg := ⟨[⟨(some 38), (.mv (.t 0)), none, 0⟩, ⟨(some 39), (.mv (.t 5)), none, 0⟩, ⟨(some 40), (.bin .quo (.int .i64) (.t 38) (.t 39)), none, 0⟩, ⟨(some 6), (.mv (.t 40)), none, 0⟩], [38, 39, 40], 0, false, []⟩
def r3_5 : Reg := ⟨[⟨(some 41), (.mv (.t 0)), none, 0⟩, ⟨(some 42), (.mv (.t 5)), none, 0⟩, ⟨(some 43), (.bin .rem (.int .i64) (.t 41) (.t 42)), none, 0⟩, ⟨(some 7), (.mv (.t 43)), none, 0⟩], [41, 42, 43], 0, false, []⟩
def r3_6 : Reg := ⟨[⟨(some 44), (.mv (.t 6)), none, 0⟩, ⟨(some 8), (.mv (.t 44)), none, 0⟩], [44], 0, false, []⟩
def r3_7 : Reg := ⟨[⟨(some 45), (.mv (.t 6)), none, 0⟩, ⟨(some 9), (.mv (.t 45)), none, 0⟩], [45], 0, false, []⟩
def r3_8 : Reg := ⟨[⟨(some 46), (.mv (.t 6)), none, 0⟩, ⟨(some 10), (.mv (.t 46)), none, 0⟩], [46], 0, false, []⟩
def r3_9 : Reg := ⟨[⟨(some 47), (.mv (.t 1)), none, 0⟩, ⟨(some 48), (.bin .gtr (.int .i64) (.t 47) (.c (.int .i64 0))), none, 0⟩, ⟨(some 49), (.mv (.t 48)), none, 0⟩, ⟨(some 50), (.mv (.t 7)), (some (49, true)), 0⟩, ⟨(some 51), (.mv (.t 5)), (some (49, true)), 0⟩, ⟨(some 52), (.bin .quo (.int .i64) (.t 51) (.c (.int .i64 2))), (some (49, true)), 0⟩, ⟨(some 53), (.bin .geq (.int .i64) (.t 50) (.t 52)), (some (49, true)), 0⟩, ⟨(some 54), (.pick (.t 49) (.t 53) (.c (.bool false))), none, 0⟩], [47, 48, 49, 50, 51, 52, 53], 0, false, []⟩
def r3_10 : Reg := ⟨[⟨(some 55), (.mv (.t 6)), none, 0⟩, ⟨(some 56), (.bin .add (.int .i64) (.t 55) (.c (.int .i64 1))), none, 0⟩, ⟨(some 9), (.mv (.t 56)), none, 0⟩], [55, 56], 0, false, []⟩
def r3_11 : Reg := ⟨[⟨(some 57), (.mv (.t 6)), none, 0⟩, ⟨(some 58), (.bin .add (.int .i64) (.t 57) (.c (.int .i64 1))), none, 0⟩, ⟨(some 10), (.mv (.t 58)), none, 0⟩], [57, 58], 0, false, []⟩
def r3_12 : Reg := ⟨[⟨(some 59), (.mv (.t 1)), none, 0⟩, ⟨(some 60), (.bin .gtr (.int .i64) (.t 59) (.c (.int .i64 0))), none, 0⟩, ⟨(some 61), (.mv (.t 60)), none, 0⟩, ⟨(some 62), (.mv (.t 7)), (some (61, true)), 0⟩, ⟨(some 63), (.mv (.t 5)), (some (61, true)), 0⟩, ⟨(some 64), (.bin .quo (.int .i64) (.t 63) (.c (.int .i64 2))), (some (61, true)), 0⟩, ⟨(some 65), (.un .neg (.t 64)), (some (61, true)), 0⟩, ⟨(some 66), (.bin .leq (.int .i64) (.t 62) (.t 65)), (some (61, true)), 0⟩, ⟨(some 67), (.pick (.t 61) (.t 66) (.c (.bool false))), none, 0⟩], [59, 60, 61, 62, 63, 64, 65, 66], 0, false, []⟩
def r3_13 : Reg := ⟨[⟨(some 68), (.mv (.t 6)), none, 0⟩, ⟨(some 69), (.bin .sub (.int .i64) (.t 68) (.c (.int .i64 1))), none, 0⟩, ⟨(some 9), (.mv (.t 69)), none, 0⟩], [68, 69], 0, false, []⟩
def r3_14 : Reg := ⟨[⟨(some 70), (.mv (.t 1)), none, 0⟩, ⟨(some 71), (.bin .gtr (.int .i64) (.t 70) (.c (.int .i64 0))), none, 0⟩, ⟨(some 72), (.mv (.t 71)), none, 0⟩, ⟨(some 73), (.mv (.t 7)), (some (72, true)), 0⟩, ⟨(some 74), (.mv (.t 5)), (some (72, true)), 0⟩, ⟨(some 75), (.bin .quo (.int .i64) (.t 74) (.c (.int .i64 2))), (some (72, true)), 0⟩, ⟨(some 76), (.un .neg (.t 75)), (some (72, true)), 0⟩, ⟨(some 77), (.bin .lss (.int .i64) (.t 73) (.t 76)), (some (72, true)), 0⟩, ⟨(some 78), (.pick (.t 72) (.t 77) (.c (.bool false))), none, 0⟩], [70, 71, 72, 73, 74, 75, 76, 77], 0, false, []⟩
def r3_15 : Reg := ⟨[⟨(some 79), (.mv (.t 6)), none, 0⟩, ⟨(some 80), (.bin .sub (.int .i64) (.t 79) (.c (.int .i64 1))), none, 0⟩, ⟨(some 10), (.mv (.t 80)), none, 0⟩], [79, 80], 0, false, []⟩
def r3_16 : Reg := ⟨[⟨(some 81), (.mv (.t 0)), none, 0⟩, ⟨(some 82), (.mv (.t 1)), none, 0⟩, ⟨(some 83), (.callP 10 [(.t 81), (.t 82)]), none, 0⟩, ⟨(some 84), (.mv (.t 8)), none, 0⟩, ⟨(some 85), (.bin .eql (.int .i64) (.t 83) (.t 84)), none, 0⟩, ⟨(some 86), (.mv (.t 85)), none, 0⟩, ⟨(some 87), (.mv (.t 0)), (some (86, true)), 0⟩, ⟨(some 88), (.mv (.t 1)), (some (86, true)), 0⟩, ⟨(some 89), (.callP 9 [(.t 87), (.t 88)]), (some (86, true)), 0⟩, ⟨(some 90), (.mv (.t 9)), (some (86, true)), 0⟩, ⟨(some 91), (.bin .eql (.int .i64) (.t 89) (.t 90)), (some (86, true)), 0⟩, ⟨(some 92), (.pick (.t 86) (.t 91) (.c (.bool false))), none, 0⟩, ⟨(some 93), (.mv (.t 92)), none, 0⟩, ⟨(some 94), (.mv (.t 0)), (some (93, true)), 0⟩, ⟨(some 95), (.mv (.t 1)), (some (93, true)), 0⟩, ⟨(some 96), (.callP 8 [(.t 94), (.t 95)]), (some (93, true)), 0⟩, ⟨(some 97), (.mv (.t 10)), (some (93, true)), 0⟩, ⟨(some 98), (.bin .eql (.int .i64) (.t 96) (.t 97)), (some (93, true)), 0⟩, ⟨(some 99), (.pick (.t 93) (.t 98) (.c (.bool false))), none, 0⟩, ⟨(some 100), (.mv (.t 99)), none, 0⟩, ⟨(some 101), (.callP 11 []), (some (100, true)), 0⟩, ⟨(some 102), (.pick (.t 100) (.t 101) (.c (.bool false))), none, 0⟩, ⟨(some 4), (.mv (.t 102)), none, 0⟩], [81, 82, 83, 84, 85, 86, 87, 88, 89, 90, 91, 92, 93, 94, 95, 96, 97, 98, 99, 100, 101, 102], 0, false, []⟩
def sf3 : SFn := { np := 2, vars := [0, 1, 4, 5, 6, 7, 8, 9, 10, 16, 54, 67, 78], body := (.seq (.reg r3_0) (.seq (.seq (.reg r3_1) (.cond (.t 16) (.seq (.reg r3_2) (.seq (.kill [0, 1, 5, 6, 7, 8, 9, 10, 16, 54, 67, 78]) .ret)) .skip)) (.seq (.reg r3_3) (.seq (.reg r3_4) (.seq (.reg r3_5) (.seq (.reg r3_6) (.seq (.reg r3_7) (.seq (.reg r3_8) (.seq (.seq (.reg r3_9) (.cond (.t 54) (.seq (.reg r3_10) (.reg r3_11)) .skip)) (.seq (.seq (.reg r3_12) (.cond (.t 67) (.reg r3_13) .skip)) (.seq (.seq (.reg r3_14) (.cond (.t 78) (.reg r3_15) .skip)) (.seq (.reg r3_16) (.seq (.kill [0, 1, 5, 6, 7, 8, 9, 10, 16, 54, 67, 78]) .ret))))))))))))), res := [(.tmp 4)] }
/-! calliope/calliopelaw03.NumWidths -/
def r4_0 : Reg := ⟨[⟨(some 2), (.mv (.c (.bool false))), none, 0⟩], [], 0, false, []⟩
def r4_1 : Reg := ⟨[⟨(some 3), (.mv (.c (.int .i64 0))), none, 0⟩], [], 0, false, []⟩
def r4_2 : Reg := ⟨[⟨(some 5), (.mv (.t 0)), none, 0⟩, ⟨(some 4), (.mv (.t 5)), none, 0⟩], [5], 0, false, []⟩
def r4_3 : Reg := ⟨[⟨(some 6), (.mv (.t 4)), none, 0⟩, ⟨(some 7), (.bin .lss (.int .i64) (.t 6) (.c (.int .i64 0))), none, 0⟩], [6], 0, false, []⟩
def r4_4 : Reg := ⟨[⟨(some 8), (.mv (.t 4)), none, 0⟩, ⟨(some 9), (.bin .add (.int .i64) (.t 8) (.c (.int .i64 1))), none, 0⟩, ⟨(some 10), (.un .neg (.t 9)), none, 0⟩, ⟨(some 4), (.mv (.t 10)), none, 0⟩], [8, 9, 10], 0, false, []⟩
def r4_5 : Reg := ⟨[⟨(some 11), (.mv (.t 4)), none, 0⟩, ⟨(some 12), (.bin .gtr (.int .i64) (.t 11) (.c (.int .i64 0))), none, 0⟩], [11], 0, false, []⟩
def r4_6 : Reg := ⟨[⟨(some 13), (.mv (.t 4)), none, 0⟩, ⟨(some 14), (.bin .quo (.int .i64) (.t 13) (.c (.int .i64 2))), none, 0⟩, ⟨(some 4), (.mv (.t 14)), none, 0⟩], [13, 14], 0, false, []⟩
def r4_7 : Reg := ⟨[⟨(some 15), (.mv (.t 3)), none, 0⟩, ⟨(some 16), (.bin .add (.int .i64) (.t 15) (.c (.int .i64 1))), none, 0⟩, ⟨(some 3), (.mv (.t 16)), none, 0⟩], [15, 16], 0, false, []⟩
def l4_8 : SC := (.seq (.seq (.seq (.reg r4_5) (.cond (.t 12) .skip (.seq (.kill [2, 4, 7, 12, 18]) (.exit 0)))) (.block 1 (.seq (.reg r4_6) (.reg r4_7)))) (.kill [2, 7, 12, 18]))
def r4_9 : Reg := ⟨[⟨(some 17), (.mv (.t 0)), none, 0⟩, ⟨(some 18), (.bin .neq (.int .i64) (.t 17) (.c (.int .i64 0))), none, 0⟩], [17], 0, false, []⟩
def r4_10 : Reg := ⟨[⟨(some 19), (.mv (.t 3)), none, 0⟩, ⟨(some 20), (.bin .add (.int .i64) (.t 19) (.c (.int .i64 1))), none, 0⟩, ⟨(some 3), (.mv (.t 20)), none, 0⟩], [19, 20], 0, false, []⟩
def r4_11 : Reg := ⟨[⟨(some 21), (.mv (.t 0)), none, 0⟩, ⟨(some 22), (.callP 13 [(.t 21)]), none, 0⟩, ⟨(some 23), (.mv (.t 3)), none, 0⟩, ⟨(some 24), (.bin .eql (.int .i64) (.t 22) (.t 23)), none, 0⟩, ⟨(some 25), (.mv (.t 24)), none, 0⟩, ⟨(some 26), (.callP 11 []), (some (25, true)), 0⟩, ⟨(some 27), (.pick (.t 25) (.t 26) (.c (.bool false))), none, 0⟩, ⟨(some 2), (.mv (.t 27)), none, 0⟩], [21, 22, 23, 24, 25, 26, 27], 0, false, []⟩
def sf4 : SFn := { np := 1, vars := [0, 2, 3, 4, 7, 12, 18], body := (.seq (.reg r4_0) (.seq (.reg r4_1) (.seq (.reg r4_2) (.seq (.seq (.reg r4_3) (.cond (.t 7) (.reg r4_4) .skip)) (.seq (.block 0 (.seq (.kill [2, 7, 12, 18]) (.loop l4_8))) (.seq (.seq (.reg r4_9) (.cond (.t 18) (.reg r4_10) .skip)) (.seq (.reg r4_11) (.seq (.kill [0, 3, 4, 7, 12, 18]) .ret)))))))), res := [(.tmp 2)] }
/-! calliope/calliopelaw03.NumClamps -/
def r5_0 : Reg := ⟨[⟨(some 6), (.mv (.c (.bool false))), none, 0⟩], [], 0, false, []⟩
def r5_1 : Reg := ⟨[⟨(some 8), (.mv (.t 0)), none, 0⟩, ⟨(some 7), (.mv (.t 8)), none, 0⟩], [8], 0, false, []⟩
def r5_2 : Reg := ⟨[⟨(some 9), (.mv (.t 0)), none, 0⟩, ⟨(some 10), (.bin .lss (.int .i64) (.t 9) (.c (.int .i64 0))), none, 0⟩], [9], 0, false, []⟩
def r5_3 : Reg := ⟨[⟨(some 11), (.mv (.t 0)), none, 0⟩, ⟨(some 12), (.un .neg (.t 11)), none, 0⟩, ⟨(some 7), (.mv (.t 12)), none, 0⟩], [11, 12], 0, false, []⟩
def r5_4 : Reg := ⟨[⟨(some 13), (.mv (.t 7)), none, 0⟩, ⟨(some 14), (.bin .lss (.int .i64) (.t 13) (.c (.int .i64 0))), none, 0⟩], [13], 0, false, []⟩
def r5_5 : Reg := ⟨[⟨(some 7), (.mv (.c (.int .i64 9223372036854775807))), none, 0⟩], [], 0, false, []⟩
def r5_6 : Reg := ⟨[⟨(some 15), (.mv (.t 0)), none, 0⟩, ⟨(some 16), (.mv (.t 1)), none, 0⟩, ⟨(some 17), (.mv (.t 2)), none, 0⟩, ⟨(some 18), (.callP 14 [(.t 15), (.t 16), (.t 17)]), none, 0⟩, ⟨(some 19), (.mv (.t 0)), none, 0⟩, ⟨(some 20), (.mv (.t 1)), none, 0⟩, ⟨(some 21), (.mv (.t 2)), none, 0⟩, ⟨(some 22), (.callP 15 [(.t 19), (.t 20), (.t 21)]), none, 0⟩, ⟨(some 23), (.bin .eql (.int .i64) (.t 18) (.t 22)), none, 0⟩, ⟨(some 24), (.mv (.t 23)), none, 0⟩, ⟨(some 25), (.mv (.t 0)), (some (24, true)), 0⟩, ⟨(some 26), (.callP 16 [(.t 25)]), (some (24, true)), 0⟩, ⟨(some 27), (.mv (.t 0)), (some (24, true)), 0⟩, ⟨(some 28), (.callP 15 [(.t 27), (.c (.int .i64 (-32768))), (.c (.int .i64 32767))]), (some (24, true)), 0⟩, ⟨(some 29), (.bin .eql (.int .i64) (.t 26) (.t 28)), (some (24, true)), 0⟩, ⟨(some 30), (.pick (.t 24) (.t 29) (.c (.bool false))), none, 0⟩, ⟨(some 31), (.mv (.t 30)), none, 0⟩, ⟨(some 32), (.mv (.t 0)), (some (31, true)), 0⟩, ⟨(some 33), (.callP 17 [(.t 32)]), (some (31, true)), 0⟩, ⟨(some 34), (.mv (.t 7)), (some (31, true)), 0⟩, ⟨(some 35), (.bin .eql (.int .i64) (.t 33) (.t 34)), (some (31, true)), 0⟩, ⟨(some 36), (.pick (.t 31) (.t 35) (.c (.bool false))), none, 0⟩, ⟨(some 37), (.mv (.t 36)), none, 0⟩, ⟨(some 38), (.pick (.t 37) (.c (.bool true)) (.c (.bool false))), none, 0⟩, ⟨(some 39), (.mv (.t 38)), none, 0⟩, ⟨(some 40), (.pick (.t 39) (.c (.bool true)) (.c (.bool false))), none, 0⟩, ⟨(some 41), (.mv (.t 40)), none, 0⟩, ⟨(some 42), (.callP 11 []), (some (41, true)), 0⟩, ⟨(some 43), (.pick (.t 41) (.t 42) (.c (.bool false))), none, 0⟩, ⟨(some 6), (.mv (.t 43)), none, 0⟩], [15, 16, 17, 18, 19, 20, 21, 22, 23, 24, 25, 26, 27, 28, 29, 30, 31, 32, 33, 34, 35, 36, 37, 38, 39, 40, 41, 42, 43], 0, false, []⟩
def sf5 : SFn := { np := 3, vars := [0, 1, 2, 6, 7, 10, 14], body := (.seq (.reg r5_0) (.seq (.reg r5_1) (.seq (.seq (.reg r5_2) (.cond (.t 10) (.reg r5_3) .skip)) (.seq (.seq (.reg r5_4) (.cond (.t 14) (.reg r5_5) .skip)) (.seq (.reg r5_6) (.seq (.kill [0, 1, 2, 7, 10, 14]) .ret)))))), res := [(.tmp 6)] }
/-! calliope/calliopelaw03.NumFloors -/
def r6_0 : Reg := ⟨[⟨(some 4), (.mv (.c (.bool false))), none, 0⟩], [], 0, false, []⟩
def r6_1 : Reg := ⟨[⟨(some 8), (.mv (.t 0)), none, 0⟩, ⟨(some 9), (.mv (.t 1)), none, 0⟩, ⟨(some 10), (.callP 18 [(.t 8), (.t 9)]), none, 0⟩, ⟨(some 11), (.mv (.t 0)), none, 0⟩, ⟨(some 12), (.mv (.t 1)), none, 0⟩, ⟨(some 13), (.callP 19 [(.t 11), (.t 12)]), none, 0⟩, ⟨(some 5), (.mv (.t 10)), none, 0⟩, ⟨(some 6), (.mv (.t 13)), none, 0⟩], [8, 9, 10, 11, 12, 13], 0, false, []⟩
def r6_2 : Reg := ⟨[⟨(some 14), (.mv (.t 1)), none, 0⟩, ⟨(some 15), (.bin .lss (.int .i64) (.t 14) (.c (.int .i64 1))), none, 0⟩], [14], 0, false, []⟩
def r6_3 : Reg := ⟨[⟨(some 16), (.mv (.t 5)), none, 0⟩, ⟨(some 17), (.bin .eql (.int .i64) (.t 16) (.c (.int .i64 0))), none, 0⟩, ⟨(some 18), (.mv (.t 17)), none, 0⟩, ⟨(some 19), (.mv (.t 6)), (some (18, true)), 0⟩, ⟨(some 20), (.bin .eql (.int .i64) (.t 19) (.c (.int .i64 0))), (some (18, true)), 0⟩, ⟨(some 21), (.pick (.t 18) (.t 20) (.c (.bool false))), none, 0⟩, ⟨(some 22), (.mv (.t 21)), none, 0⟩, ⟨(some 23), (.callP 11 []), (some (22, true)), 0⟩, ⟨(some 24), (.pick (.t 22) (.t 23) (.c (.bool false))), none, 0⟩, ⟨(some 4), (.mv (.t 24)), none, 0⟩], [16, 17, 18, 19, 20, 21, 22, 23, 24], 0, false, []⟩
def r6_4 : Reg := ⟨[⟨(some 25), (.mv (.t 0)), none, 0⟩, ⟨(some 26), (.mv (.t 1)), none, 0⟩, ⟨(some 27), (.bin .rem (.int .i64) (.t 25) (.t 26)), none, 0⟩, ⟨(some 7), (.mv (.t 27)), none, 0⟩], [25, 26, 27], 0, false, []⟩
def r6_5 : Reg := ⟨[⟨(some 28), (.mv (.t 7)), none, 0⟩, ⟨(some 29), (.bin .lss (.int .i64) (.t 28) (.c (.int .i64 0))), none, 0⟩], [28], 0, false, []⟩
def r6_6 : Reg := ⟨[⟨(some 30), (.mv (.t 7)), none, 0⟩, ⟨(some 31), (.mv (.t 1)), none, 0⟩, ⟨(some 32), (.bin .add (.int .i64) (.t 30) (.t 31)), none, 0⟩, ⟨(some 7), (.mv (.t 32)), none, 0⟩], [30, 31, 32], 0, false, []⟩
def r6_7 : Reg := ⟨[⟨(some 33), (.mv (.t 6)), none, 0⟩, ⟨(some 34), (.mv (.t 7)), none, 0⟩, ⟨(some 35), (.bin .eql (.int .i64) (.t 33) (.t 34)), none, 0⟩, ⟨(some 36), (.mv (.t 35)), none, 0⟩, ⟨(some 37), (.mv (.t 5)), (some (36, true)), 0⟩, ⟨(some 38), (.mv (.t 0)), (some (36, true)), 0⟩, ⟨(some 39), (.mv (.t 1)), (some (36, true)), 0⟩, ⟨(some 40), (.bin .quo (.int .i64) (.t 38) (.t 39)), (some (36, true)), 0⟩, ⟨(some 41), (.mv (.t 0)), (some (36, true)), 0⟩, ⟨(some 42), (.mv (.t 1)), (some (36, true)), 0⟩, ⟨(some 43), (.callP 20 [(.t 41), (.t 42)]), (some (36, true)), 0⟩, ⟨(some 44), (.bin .sub (.int .i64) (.t 40) (.t 43)), (some (36, true)), 0⟩, ⟨(some 45), (.bin .eql (.int .i64) (.t 37) (.t 44)), (some (36, true)), 0⟩, ⟨(some 46), (.pick (.t 36) (.t 45) (.c (.bool false))), none, 0⟩, ⟨(some 47), (.mv (.t 46)), none, 0⟩, ⟨(some 48), (.callP 11 []), (some (47, true)), 0⟩, ⟨(some 49), (.pick (.t 47) (.t 48) (.c (.bool false))), none, 0⟩, ⟨(some 4), (.mv (.t 49)), none, 0⟩], [33, 34, 35, 36, 37, 38, 39, 40, 41, 42, 43, 44, 45, 46, 47, 48, 49], 0, false, []⟩
def sf6 : SFn := { np := 2, vars := [0, 1, 4, 5, 6, 7, 15, 29], body := (.seq (.reg r6_0) (.seq (.reg r6_1) (.seq (.seq (.reg r6_2) (.cond (.t 15) (.seq (.reg r6_3) (.seq (.kill [0, 1, 5, 6, 7, 15, 29]) .ret)) .skip)) (.seq (.reg r6_4) (.seq (.seq (.reg r6_5) (.cond (.t 29) (.reg r6_6) .skip)) (.seq (.reg r6_7) (.seq (.kill [0, 1, 5, 6, 7, 15, 29]) .ret))))))), res := [(.tmp 4)] }
/-! calliope/calliopelaw03.NumSums -/
def r7_0 : Reg := ⟨[⟨(some 2), (.mv (.c (.bool false))), none, 0⟩], [], 0, false, []⟩
def r7_1 : Reg := ⟨[⟨(some 6), (.mv (.t 0)), none, 0⟩, ⟨(some 7), (.len .slice (.t 6)), none, 0⟩, ⟨(some 8), (.bin .gtr (.int .i64) (.t 7) (.c (.int .i64 50))), none, 0⟩], [6, 7], 0, false, []⟩
def r7_2 : Reg := ⟨[⟨(some 9), (.mv (.t 0)), none, 0⟩, ⟨(some 10), (.slS 1 (.t 9) none (some (.c (.int .i64 50)))), none, 0⟩, ⟨(some 0), (.mv (.t 10)), none, 0⟩], [9, 10], 0, false, []⟩
def r7_3 : Reg := ⟨[⟨(some 3), (.mv (.c (.int .i64 0))), none, 0⟩, ⟨(some 4), (.mv (.c (.int .i64 0))), none, 0⟩], [], 0, false, []⟩
def r7_4 : Reg := ⟨[⟨(some 5), (.mv (.c (.int .i64 0))), none, 0⟩], [], 0, false, []⟩
def r7_5 : Reg := ⟨[⟨(some 11), (.mv (.t 5)), none, 0⟩, ⟨(some 12), (.mv (.t 0)), none, 0⟩, ⟨(some 13), (.len .slice (.t 12)), none, 0⟩, ⟨(some 14), (.bin .lss (.int .i64) (.t 11) (.t 13)), none, 0⟩], [11, 12, 13], 0, false, []⟩
def r7_6 : Reg := ⟨[⟨(some 17), (.mv (.t 3)), none, 0⟩, ⟨(some 18), (.mv (.t 0)), none, 0⟩, ⟨(some 19), (.mv (.t 5)), none, 0⟩, ⟨(some 20), (.idxS 1 (.t 18) (.t 19)), none, 0⟩, ⟨(some 21), (.load none (.t 20)), none, 0⟩, ⟨(some 22), (.callP 21 [(.t 17), (.t 21)]), none, 0⟩, ⟨(some 3), (.mv (.t 22)), none, 0⟩], [17, 18, 19, 20, 21, 22], 0, false, []⟩
def r7_7 : Reg := ⟨[⟨(some 23), (.mv (.t 0)), none, 0⟩, ⟨(some 24), (.mv (.t 5)), none, 0⟩, ⟨(some 25), (.idxS 1 (.t 23) (.t 24)), none, 0⟩, ⟨(some 26), (.load none (.t 25)), none, 0⟩, ⟨(some 27), (.callP 17 [(.t 26)]), none, 0⟩, ⟨(some 28), (.mv (.t 4)), none, 0⟩, ⟨(some 29), (.bin .gtr (.int .i64) (.t 27) (.t 28)), none, 0⟩], [23, 24, 25, 26, 27, 28], 0, false, []⟩
def r7_8 : Reg := ⟨[⟨(some 30), (.mv (.t 0)), none, 0⟩, ⟨(some 31), (.mv (.t 5)), none, 0⟩, ⟨(some 32), (.idxS 1 (.t 30) (.t 31)), none, 0⟩, ⟨(some 33), (.load none (.t 32)), none, 0⟩, ⟨(some 34), (.callP 17 [(.t 33)]), none, 0⟩, ⟨(some 4), (.mv (.t 34)), none, 0⟩], [30, 31, 32, 33, 34], 0, false, []⟩
def r7_9 : Reg := ⟨[⟨(some 15), (.mv (.t 5)), none, 0⟩, ⟨(some 16), (.bin .add (.int .i64) (.t 15) (.c (.int .i64 1))), none, 0⟩, ⟨(some 5), (.mv (.t 16)), none, 0⟩], [15, 16], 0, false, []⟩
def l7_10 : SC := (.seq (.seq (.seq (.reg r7_5) (.cond (.t 14) .skip (.seq (.kill [2, 5, 8, 14, 29]) (.exit 0)))) (.seq (.block 1 (.seq (.reg r7_6) (.seq (.reg r7_7) (.cond (.t 29) (.reg r7_8) .skip)))) (.reg r7_9))) (.kill [2, 8, 14, 29]))
def r7_11 : Reg := ⟨[⟨(some 35), (.mv (.t 0)), none, 0⟩, ⟨(some 36), (.call 22 [(.t 35)]), none, 0⟩, ⟨(some 37), (.mv (.t 3)), none, 0⟩, ⟨(some 38), (.bin .eql (.int .i64) (.t 36) (.t 37)), none, 0⟩, ⟨(some 39), (.mv (.t 38)), none, 0⟩, ⟨(some 40), (.mv (.t 0)), (some (39, true)), 0⟩, ⟨(some 41), (.call 23 [(.t 40)]), (some (39, true)), 0⟩, ⟨(some 42), (.mv (.t 3)), (some (39, true)), 0⟩, ⟨(some 43), (.callP 15 [(.t 42), (.c (.int .i64 (-32768))), (.c (.int .i64 32767))]), (some (39, true)), 0⟩, ⟨(some 44), (.bin .eql (.int .i64) (.t 41) (.t 43)), (some (39, true)), 0⟩, ⟨(some 45), (.pick (.t 39) (.t 44) (.c (.bool false))), none, 0⟩, ⟨(some 46), (.mv (.t 45)), none, 0⟩, ⟨(some 47), (.mv (.t 0)), (some (46, true)), 0⟩, ⟨(some 48), (.call 24 [(.t 47)]), (some (46, true)), 0⟩, ⟨(some 49), (.mv (.t 4)), (some (46, true)), 0⟩, ⟨(some 50), (.bin .eql (.int .i64) (.t 48) (.t 49)), (some (46, true)), 0⟩, ⟨(some 51), (.pick (.t 46) (.t 50) (.c (.bool false))), none, 0⟩, ⟨(some 52), (.mv (.t 51)), none, 0⟩, ⟨(some 53), (.callP 11 []), (some (52, true)), 0⟩, ⟨(some 54), (.pick (.t 52) (.t 53) (.c (.bool false))), none, 0⟩, ⟨(some 2), (.mv (.t 54)), none, 0⟩], [35, 36, 37, 38, 39, 40, 41, 42, 43, 44, 45, 46, 47, 48, 49, 50, 51, 52, 53, 54], 0, true, []⟩
def sf7 : SFn := { np := 1, vars := [0, 2, 3, 4, 5, 8, 14, 29], body := (.seq (.reg r7_0) (.seq (.seq (.reg r7_1) (.cond (.t 8) (.reg r7_2) .skip)) (.seq (.reg r7_3) (.seq (.seq (.reg r7_4) (.block 0 (.seq (.kill [2, 8, 14, 29]) (.loop l7_10)))) (.seq (.reg r7_11) (.seq (.kill [0, 3, 4, 5, 8, 14, 29]) .ret)))))), res := [(.tmp 2)] }
/-! calliope/num.Round -/
def r8_0 : Reg := ⟨[⟨(some 4), (.mv (.c (.int .i64 0))), none, 0⟩], [], 0, false, []⟩
def r8_1 : Reg := ⟨[⟨(some 6), (.mv (.t 1)), none, 0⟩, ⟨(some 7), (.bin .lss (.int .i64) (.t 6) (.c (.int .i64 0))), none, 0⟩, ⟨(some 8), (.mv (.t 7)), none, 0⟩, ⟨(some 9), (.mv (.t 1)), (some (8, false)), 0⟩, ⟨(some 10), (.bin .gtr (.int .i64) (.t 9) (.c (.int .i64 62))), (some (8, false)), 0⟩, ⟨(some 11), (.pick (.t 8) (.c (.bool true)) (.t 10)), none, 0⟩, ⟨(some 5), (.mv (.t 11)), none, 0⟩], [6, 7, 8, 9, 10, 11], 0, false, []⟩
def r8_2 : Reg := ⟨[⟨(some 4), (.mv (.c (.int .i64 0))), none, 0⟩], [], 0, false, []⟩
def r8_3 : Reg := ⟨[⟨(some 13), (.mv (.t 1)), none, 0⟩, ⟨(some 14), (.bin .eql (.int .i64) (.t 13) (.c (.int .i64 0))), none, 0⟩, ⟨(some 12), (.mv (.t 14)), none, 0⟩], [13, 14], 0, false, []⟩
def r8_4 : Reg := ⟨[⟨(some 15), (.mv (.t 0)), none, 0⟩, ⟨(some 4), (.mv (.t 15)), none, 0⟩], [15], 0, false, []⟩
def r8_5 : Reg := ⟨[⟨(some 16), (.mv (.t 0)), none, 0⟩, ⟨(some 17), (.mv (.t 1)), none, 0⟩, ⟨(some 18), (.bin .shr (.int .i64) (.t 16) (.t 17)), none, 0⟩, ⟨(some 19), (.mv (.t 0)), none, 0⟩, ⟨(some 20), (.mv (.t 1)), none, 0⟩, ⟨(some 21), (.bin .sub (.int .i64) (.t 20) (.c (.int .i64 1))), none, 0⟩, ⟨(some 22), (.bin .shr (.int .i64) (.t 19) (.t 21)), none, 0⟩, ⟨(some 23), (.bin .and (.int .i64) (.t 22) (.c (.int .i64 1))), none, 0⟩, ⟨(some 24), (.bin .add (.int .i64) (.t 18) (.t 23)), none, 0⟩, ⟨(some 4), (.mv (.t 24)), none, 0⟩], [16, 17, 18, 19, 20, 21, 22, 23, 24], 0, false, []⟩
def sf8 : SFn := { np := 2, vars := [0, 1, 4, 5, 12], body := (.seq (.reg r8_0) (.seq (.block 0 (.seq (.reg r8_1) (.cond (.t 5) (.seq (.reg r8_2) (.seq (.kill [0, 1, 5, 12]) .ret)) (.seq (.reg r8_3) (.cond (.t 12) (.seq (.reg r8_4) (.seq (.kill [0, 1, 5, 12]) .ret)) .skip))))) (.seq (.reg r8_5) (.seq (.kill [0, 1, 5, 12]) .ret)))), res := [(.tmp 4)] }
/-! calliope/num.Near -/
def r9_0 : Reg := ⟨[⟨(some 4), (.mv (.c (.int .i64 0))), none, 0⟩], [], 0, false, []⟩
def r9_1 : Reg := ⟨[⟨(some 7), (.mv (.t 1)), none, 0⟩, ⟨(some 8), (.bin .lss (.int .i64) (.t 7) (.c (.int .i64 0))), none, 0⟩, ⟨(some 9), (.mv (.t 8)), none, 0⟩, ⟨(some 10), (.mv (.t 1)), (some (9, false)), 0⟩, ⟨(some 11), (.bin .gtr (.int .i64) (.t 10) (.c (.int .i64 62))), (some (9, false)), 0⟩, ⟨(some 12), (.pick (.t 9) (.c (.bool true)) (.t 11)), none, 0⟩], [7, 8, 9, 10, 11], 0, false, []⟩
def r9_2 : Reg := ⟨[⟨(some 4), (.mv (.c (.int .i64 0))), none, 0⟩], [], 0, false, []⟩
def r9_3 : Reg := ⟨[⟨(some 13), (.mv (.t 0)), none, 0⟩, ⟨(some 14), (.mv (.t 1)), none, 0⟩, ⟨(some 15), (.bin .shl (.int .i64) (.c (.int .i64 1)) (.t 14)), none, 0⟩, ⟨(some 16), (.bin .quo (.int .i64) (.t 13) (.t 15)), none, 0⟩, ⟨(some 17), (.mv (.t 0)), none, 0⟩, ⟨(some 18), (.mv (.t 1)), none, 0⟩, ⟨(some 19), (.bin .shl (.int .i64) (.c (.int .i64 1)) (.t 18)), none, 0⟩, ⟨(some 20), (.bin .rem (.int .i64) (.t 17) (.t 19)), none, 0⟩, ⟨(some 5), (.mv (.t 16)), none, 0⟩, ⟨(some 6), (.mv (.t 20)), none, 0⟩], [13, 14, 15, 16, 17, 18, 19, 20], 0, false, []⟩
def r9_4 : Reg := ⟨[⟨(some 22), (.mv (.t 1)), none, 0⟩, ⟨(some 23), (.bin .eql (.int .i64) (.t 22) (.c (.int .i64 0))), none, 0⟩, ⟨(some 21), (.mv (.t 23)), none, 0⟩], [22, 23], 0, false, []⟩
def r9_5 : Reg := ⟨[⟨(some 25), (.mv (.t 6)), none, 0⟩, ⟨(some 26), (.mv (.t 1)), none, 0⟩, ⟨(some 27), (.bin .sub (.int .i64) (.t 26) (.c (.int .i64 1))), none, 0⟩, ⟨(some 28), (.bin .shl (.int .i64) (.c (.int .i64 1)) (.t 27)), none, 0⟩, ⟨(some 29), (.bin .geq (.int .i64) (.t 25) (.t 28)), none, 0⟩, ⟨(some 24), (.mv (.t 29)), none, 0⟩], [25, 26, 27, 28, 29], 0, false, []⟩
def r9_6 : Reg := ⟨[⟨(some 30), (.mv (.t 5)), none, 0⟩, ⟨(some 31), (.bin .add (.int .i64) (.t 30) (.c (.int .i64 1))), none, 0⟩, ⟨(some 5), (.mv (.t 31)), none, 0⟩], [30, 31], 0, false, []⟩
def r9_7 : Reg := ⟨[⟨(some 33), (.mv (.t 6)), none, 0⟩, ⟨(some 34), (.mv (.t 1)), none, 0⟩, ⟨(some 35), (.bin .sub (.int .i64) (.t 34) (.c (.int .i64 1))), none, 0⟩, ⟨(some 36), (.bin .shl (.int .i64) (.c (.int .i64 (-1))) (.t 35)), none, 0⟩, ⟨(some 37), (.bin .leq (.int .i64) (.t 33) (.t 36)), none, 0⟩, ⟨(some 32), (.mv (.t 37)), none, 0⟩], [33, 34, 35, 36, 37], 0, false, []⟩
def r9_8 : Reg := ⟨[⟨(some 38), (.mv (.t 5)), none, 0⟩, ⟨(some 39), (.bin .sub (.int .i64) (.t 38) (.c (.int .i64 1))), none, 0⟩, ⟨(some 5), (.mv (.t 39)), none, 0⟩], [38, 39], 0, false, []⟩
def r9_9 : Reg := ⟨[⟨(some 40), (.mv (.t 5)), none, 0⟩, ⟨(some 4), (.mv (.t 40)), none, 0⟩], [40], 0, false, []⟩
def sf9 : SFn := { np := 2, vars := [0, 1, 4, 5, 6, 12, 21, 24, 32], body := (.seq (.reg r9_0) (.seq (.seq (.reg r9_1) (.cond (.t 12) (.seq (.reg r9_2) (.seq (.kill [0, 1, 5, 6, 12, 21, 24, 32]) .ret)) .skip)) (.seq (.reg r9_3) (.seq (.block 0 (.seq (.reg r9_4) (.cond (.t 21) .skip (.seq (.reg r9_5) (.cond (.t 24) (.reg r9_6) (.seq (.reg r9_7) (.cond (.t 32) (.reg r9_8) .skip))))))) (.seq (.reg r9_9) (.seq (.kill [0, 1, 5, 6, 12, 21, 24, 32]) .ret)))))), res := [(.tmp 4)] }
/-! calliope/num.Cut -/
def r10_0 : Reg := ⟨[⟨(some 4), (.mv (.c (.int .i64 0))), none, 0⟩], [], 0, false, []⟩
def r10_1 : Reg := ⟨[⟨(some 5), (.mv (.t 1)), none, 0⟩, ⟨(some 6), (.bin .lss (.int .i64) (.t 5) (.c (.int .i64 0))), none, 0⟩, ⟨(some 7), (.mv (.t 6)), none, 0⟩, ⟨(some 8), (.mv (.t 1)), (some (7, false)), 0⟩, ⟨(some 9), (.bin .gtr (.int .i64) (.t 8) (.c (.int .i64 62))), (some (7, false)), 0⟩, ⟨(some 10), (.pick (.t 7) (.c (.bool true)) (.t 9)), none, 0⟩], [5, 6, 7, 8, 9], 0, false, []⟩
def r10_2 : Reg := ⟨[⟨(some 4), (.mv (.c (.int .i64 0))), none, 0⟩], [], 0, false, []⟩
def r10_3 : Reg := ⟨[⟨(some 11), (.mv (.t 0)), none, 0⟩, ⟨(some 12), (.mv (.t 1)), none, 0⟩, ⟨(some 13), (.bin .shl (.int .i64) (.c (.int .i64 1)) (.t 12)), none, 0⟩, ⟨(some 14), (.bin .quo (.int .i64) (.t 11) (.t 13)), none, 0⟩, ⟨(some 4), (.mv (.t 14)), none, 0⟩], [11, 12, 13, 14], 0, false, []⟩
def sf10 : SFn := { np := 2, vars := [0, 1, 4, 10], body := (.seq (.reg r10_0) (.seq (.seq (.reg r10_1) (.cond (.t 10) (.seq (.reg r10_2) (.seq (.kill [0, 1, 10]) .ret)) .skip)) (.seq (.reg r10_3) (.seq (.kill [0, 1, 10]) .ret)))), res := [(.tmp 4)] }
/-! calliope/calliopelaw03.awake -/
def r11_0 : Reg := ⟨[⟨(some 0), (.mv (.c (.bool false))), none, 0⟩], [], 0, false, []⟩
def r11_1 : Reg := ⟨[⟨(some 1), (.callP 8 [(.c (.int .i64 (-3))), (.c (.int .i64 1))]), none, 0⟩, ⟨(some 2), (.bin .eql (.int .i64) (.t 1) (.c (.int .i64 (-1)))), none, 0⟩, ⟨(some 3), (.mv (.t 2)), none, 0⟩, ⟨(some 4), (.callP 9 [(.c (.int .i64 (-3))), (.c (.int .i64 1))]), (some (3, true)), 0⟩, ⟨(some 5), (.bin .eql (.int .i64) (.t 4) (.c (.int .i64 (-2)))), (some (3, true)), 0⟩, ⟨(some 6), (.pick (.t 3) (.t 5) (.c (.bool false))), none, 0⟩, ⟨(some 7), (.mv (.t 6)), none, 0⟩, ⟨(some 8), (.callP 10 [(.c (.int .i64 (-3))), (.c (.int .i64 1))]), (some (7, true)), 0⟩, ⟨(some 9), (.bin .eql (.int .i64) (.t 8) (.c (.int .i64 (-1)))), (some (7, true)), 0⟩, ⟨(some 10), (.pick (.t 7) (.t 9) (.c (.bool false))), none, 0⟩, ⟨(some 0), (.mv (.t 10)), none, 0⟩], [1, 2, 3, 4, 5, 6, 7, 8, 9, 10], 0, false, []⟩
def sf11 : SFn := { np := 0, vars := [0], body := (.seq (.reg r11_0) (.seq (.reg r11_1) (.seq (.kill []) .ret))), res := [(.tmp 0)] }
/-! calliope/calliopelaw03.power -/
def r12_0 : Reg := ⟨[⟨(some 2), (.mv (.c (.int .i64 0))), none, 0⟩], [], 0, false, []⟩
def r12_1 : Reg := ⟨[⟨(some 3), (.mv (.c (.int .i64 1))), none, 0⟩], [], 0, false, []⟩
def r12_2 : Reg := ⟨[⟨(some 4), (.mv (.c (.int .i64 0))), none, 0⟩], [], 0, false, []⟩
def r12_3 : Reg := ⟨[⟨(some 5), (.mv (.t 4)), none, 0⟩, ⟨(some 6), (.mv (.t 0)), none, 0⟩, ⟨(some 7), (.bin .lss (.int .i64) (.t 5) (.t 6)), none, 0⟩], [5, 6], 0, false, []⟩
def r12_4 : Reg := ⟨[⟨(some 10), (.mv (.t 3)), none, 0⟩, ⟨(some 11), (.bin .mul (.int .i64) (.c (.int .i64 2)) (.t 10)), none, 0⟩, ⟨(some 3), (.mv (.t 11)), none, 0⟩], [10, 11], 0, false, []⟩
def r12_5 : Reg := ⟨[⟨(some 8), (.mv (.t 4)), none, 0⟩, ⟨(some 9), (.bin .add (.int .i64) (.t 8) (.c (.int .i64 1))), none, 0⟩, ⟨(some 4), (.mv (.t 9)), none, 0⟩], [8, 9], 0, false, []⟩
def l12_6 : SC := (.seq (.seq (.seq (.reg r12_3) (.cond (.t 7) .skip (.seq (.kill [0, 2, 4, 7]) (.exit 0)))) (.seq (.block 1 (.reg r12_4)) (.reg r12_5))) (.kill [2, 7]))
def r12_7 : Reg := ⟨[⟨(some 12), (.mv (.t 3)), none, 0⟩, ⟨(some 2), (.mv (.t 12)), none, 0⟩], [12], 0, false, []⟩
def sf12 : SFn := { np := 1, vars := [0, 2, 3, 4, 7], body := (.seq (.reg r12_0) (.seq (.reg r12_1) (.seq (.seq (.reg r12_2) (.block 0 (.seq (.kill [2, 7]) (.loop l12_6)))) (.seq (.reg r12_7) (.seq (.kill [0, 3, 4, 7]) .ret))))), res := [(.tmp 2)] }
/-! calliope/num.Width -/
def r13_0 : Reg := ⟨[⟨(some 2), (.mv (.c (.int .i64 0))), none, 0⟩], [], 0, false, []⟩
def r13_1 : Reg := ⟨[⟨(some 4), (.mv (.t 0)), none, 0⟩, ⟨(some 5), (.bin .eql (.int .i64) (.t 4) (.c (.int .i64 0))), none, 0⟩], [4], 0, false, []⟩
def r13_2 : Reg := ⟨[⟨(some 2), (.mv (.c (.int .i64 0))), none, 0⟩], [], 0, false, []⟩
def r13_3 : Reg := ⟨[⟨(some 6), (.mv (.t 0)), none, 0⟩, ⟨(some 7), (.bin .lss (.int .i64) (.t 6) (.c (.int .i64 0))), none, 0⟩], [6], 0, false, []⟩
def r13_4 : Reg := ⟨[⟨(some 8), (.mv (.t 0)), none, 0⟩, ⟨(some 9), (.un .xor (.t 8)), none, 0⟩, ⟨(some 0), (.mv (.t 9)), none, 0⟩], [8, 9], 0, false, []⟩
def r13_5 : Reg := ⟨[⟨(some 3), (.mv (.c (.int .i64 1))), none, 0⟩], [], 0, false, []⟩
def r13_6 : Reg := ⟨[⟨(some 10), (.mv (.t 0)), none, 0⟩, ⟨(some 11), (.bin .gtr (.int .i64) (.t 10) (.c (.int .i64 0))), none, 0⟩], [10], 0, false, []⟩
def r13_7 : Reg := ⟨[⟨(some 14), (.mv (.t 3)), none, 0⟩, ⟨(some 15), (.bin .add (.int .i64) (.t 14) (.c (.int .i64 1))), none, 0⟩, ⟨(some 3), (.mv (.t 15)), none, 0⟩], [14, 15], 0, false, []⟩
def r13_8 : Reg := ⟨[⟨(some 12), (.mv (.t 0)), none, 0⟩, ⟨(some 13), (.bin .shr (.int .i64) (.t 12) (.c (.int .u64 1))), none, 0⟩, ⟨(some 0), (.mv (.t 13)), none, 0⟩], [12, 13], 0, false, []⟩
def l13_9 : SC := (.seq (.seq (.seq (.reg r13_6) (.cond (.t 11) .skip (.seq (.kill [0, 2, 5, 7, 11]) (.exit 0)))) (.seq (.block 1 (.reg r13_7)) (.reg r13_8))) (.kill [2, 5, 7, 11]))
def r13_10 : Reg := ⟨[⟨(some 16), (.mv (.t 3)), none, 0⟩, ⟨(some 2), (.mv (.t 16)), none, 0⟩], [16], 0, false, []⟩
def sf13 : SFn := { np := 1, vars := [0, 2, 3, 5, 7, 11], body := (.seq (.reg r13_0) (.seq (.seq (.reg r13_1) (.cond (.t 5) (.seq (.reg r13_2) (.seq (.kill [0, 3, 5, 7, 11]) .ret)) .skip)) (.seq (.seq (.reg r13_3) (.cond (.t 7) (.reg r13_4) .skip)) (.seq (.reg r13_5) (.seq (.block 0 (.seq (.kill [2, 5, 7, 11]) (.loop l13_9))) (.seq (.reg r13_10) (.seq (.kill [0, 3, 5, 7, 11]) .ret))))))), res := [(.tmp 2)] }
/-! calliope/num.Clamp -/
def r14_0 : Reg := ⟨[⟨(some 6), (.mv (.c (.int .i64 0))), none, 0⟩], [], 0, false, []⟩
def r14_1 : Reg := ⟨[⟨(some 8), (.mv (.t 0)), none, 0⟩, ⟨(some 9), (.mv (.t 1)), none, 0⟩, ⟨(some 10), (.bin .lss (.int .i64) (.t 8) (.t 9)), none, 0⟩, ⟨(some 11), (.mv (.t 10)), none, 0⟩, ⟨(some 12), (.mv (.t 2)), (some (11, false)), 0⟩, ⟨(some 13), (.mv (.t 1)), (some (11, false)), 0⟩, ⟨(some 14), (.bin .lss (.int .i64) (.t 12) (.t 13)), (some (11, false)), 0⟩, ⟨(some 15), (.pick (.t 11) (.c (.bool true)) (.t 14)), none, 0⟩, ⟨(some 7), (.mv (.t 15)), none, 0⟩], [8, 9, 10, 11, 12, 13, 14, 15], 0, false, []⟩
def r14_2 : Reg := ⟨[⟨(some 16), (.mv (.t 1)), none, 0⟩, ⟨(some 6), (.mv (.t 16)), none, 0⟩], [16], 0, false, []⟩
def r14_3 : Reg := ⟨[⟨(some 18), (.mv (.t 0)), none, 0⟩, ⟨(some 19), (.mv (.t 2)), none, 0⟩, ⟨(some 20), (.bin .gtr (.int .i64) (.t 18) (.t 19)), none, 0⟩, ⟨(some 17), (.mv (.t 20)), none, 0⟩], [18, 19, 20], 0, false, []⟩
def r14_4 : Reg := ⟨[⟨(some 21), (.mv (.t 2)), none, 0⟩, ⟨(some 6), (.mv (.t 21)), none, 0⟩], [21], 0, false, []⟩
def r14_5 : Reg := ⟨[⟨(some 22), (.mv (.t 0)), none, 0⟩, ⟨(some 6), (.mv (.t 22)), none, 0⟩], [22], 0, false, []⟩
def sf14 : SFn := { np := 3, vars := [0, 1, 2, 6, 7, 17], body := (.seq (.reg r14_0) (.seq (.block 0 (.seq (.reg r14_1) (.cond (.t 7) (.seq (.reg r14_2) (.seq (.kill [0, 1, 2, 7, 17]) .ret)) (.seq (.reg r14_3) (.cond (.t 17) (.seq (.reg r14_4) (.seq (.kill [0, 1, 2, 7, 17]) .ret)) .skip))))) (.seq (.reg r14_5) (.seq (.kill [0, 1, 2, 7, 17]) .ret)))), res := [(.tmp 6)] }
/-! calliope/calliopelaw03.clamp -/
def r15_0 : Reg := ⟨[⟨(some 6), (.mv (.c (.int .i64 0))), none, 0⟩], [], 0, false, []⟩
def r15_1 : Reg := ⟨[⟨(some 7), (.mv (.t 2)), none, 0⟩, ⟨(some 8), (.mv (.t 1)), none, 0⟩, ⟨(some 9), (.bin .lss (.int .i64) (.t 7) (.t 8)), none, 0⟩, ⟨(some 10), (.mv (.t 9)), none, 0⟩, ⟨(some 11), (.mv (.t 0)), (some (10, false)), 0⟩, ⟨(some 12), (.mv (.t 1)), (some (10, false)), 0⟩, ⟨(some 13), (.bin .lss (.int .i64) (.t 11) (.t 12)), (some (10, false)), 0⟩, ⟨(some 14), (.pick (.t 10) (.c (.bool true)) (.t 13)), none, 0⟩], [7, 8, 9, 10, 11, 12, 13], 0, false, []⟩
def r15_2 : Reg := ⟨[⟨(some 15), (.mv (.t 1)), none, 0⟩, ⟨(some 6), (.mv (.t 15)), none, 0⟩], [15], 0, false, []⟩
def r15_3 : Reg := ⟨[⟨(some 16), (.mv (.t 0)), none, 0⟩, ⟨(some 17), (.mv (.t 2)), none, 0⟩, ⟨(some 18), (.bin .gtr (.int .i64) (.t 16) (.t 17)), none, 0⟩], [16, 17], 0, false, []⟩
def r15_4 : Reg := ⟨[⟨(some 19), (.mv (.t 2)), none, 0⟩, ⟨(some 6), (.mv (.t 19)), none, 0⟩], [19], 0, false, []⟩
def r15_5 : Reg := ⟨[⟨(some 20), (.mv (.t 0)), none, 0⟩, ⟨(some 6), (.mv (.t 20)), none, 0⟩], [20], 0, false, []⟩
def sf15 : SFn := { np := 3, vars := [0, 1, 2, 6, 14, 18], body := (.seq (.reg r15_0) (.seq (.seq (.reg r15_1) (.cond (.t 14) (.seq (.reg r15_2) (.seq (.kill [0, 1, 2, 14, 18]) .ret)) .skip)) (.seq (.seq (.reg r15_3) (.cond (.t 18) (.seq (.reg r15_4) (.seq (.kill [0, 1, 2, 14, 18]) .ret)) .skip)) (.seq (.reg r15_5) (.seq (.kill [0, 1, 2, 14, 18]) .ret))))), res := [(.tmp 6)] }
/-! calliope/num.Sat -/
def r16_0 : Reg := ⟨[⟨(some 2), (.mv (.c (.int .i64 0))), none, 0⟩], [], 0, false, []⟩
def r16_1 : Reg := ⟨[⟨(some 3), (.mv (.t 0)), none, 0⟩, ⟨(some 4), (.callP 14 [(.t 3), (.c (.int .i64 (-32768))), (.c (.int .i64 32767))]), none, 0⟩, ⟨(some 2), (.mv (.t 4)), none, 0⟩], [3, 4], 0, false, []⟩
def sf16 : SFn := { np := 1, vars := [0, 2], body := (.seq (.reg r16_0) (.seq (.reg r16_1) (.seq (.kill [0]) .ret))), res := [(.tmp 2)] }
/-! calliope/num.Abs -/
def r17_0 : Reg := ⟨[⟨(some 2), (.mv (.c (.int .i64 0))), none, 0⟩], [], 0, false, []⟩
def r17_1 : Reg := ⟨[⟨(some 4), (.mv (.t 0)), none, 0⟩, ⟨(some 5), (.bin .eql (.int .i64) (.t 4) (.c (.int .i64 (-9223372036854775808)))), none, 0⟩, ⟨(some 3), (.mv (.t 5)), none, 0⟩], [4, 5], 0, false, []⟩
def r17_2 : Reg := ⟨[⟨(some 2), (.mv (.c (.int .i64 9223372036854775807))), none, 0⟩], [], 0, false, []⟩
def r17_3 : Reg := ⟨[⟨(some 7), (.mv (.t 0)), none, 0⟩, ⟨(some 8), (.bin .lss (.int .i64) (.t 7) (.c (.int .i64 0))), none, 0⟩, ⟨(some 6), (.mv (.t 8)), none, 0⟩], [7, 8], 0, false, []⟩
def r17_4 : Reg := ⟨[⟨(some 9), (.mv (.t 0)), none, 0⟩, ⟨(some 10), (.un .neg (.t 9)), none, 0⟩, ⟨(some 2), (.mv (.t 10)), none, 0⟩], [9, 10], 0, false, []⟩
def r17_5 : Reg := ⟨[⟨(some 11), (.mv (.t 0)), none, 0⟩, ⟨(some 2), (.mv (.t 11)), none, 0⟩], [11], 0, false, []⟩
def sf17 : SFn := { np := 1, vars := [0, 2, 3, 6], body := (.seq (.reg r17_0) (.seq (.block 0 (.seq (.reg r17_1) (.cond (.t 3) (.seq (.reg r17_2) (.seq (.kill [0, 3, 6]) .ret)) (.seq (.reg r17_3) (.cond (.t 6) (.seq (.reg r17_4) (.seq (.kill [0, 3, 6]) .ret)) .skip))))) (.seq (.reg r17_5) (.seq (.kill [0, 3, 6]) .ret)))), res := [(.tmp 2)] }
/-! calliope/num.Floor -/
def r18_0 : Reg := ⟨[⟨(some 4), (.mv (.c (.int .i64 0))), none, 0⟩], [], 0, false, []⟩
def r18_1 : Reg := ⟨[⟨(some 6), (.mv (.t 1)), none, 0⟩, ⟨(some 7), (.bin .lss (.int .i64) (.t 6) (.c (.int .i64 1))), none, 0⟩], [6], 0, false, []⟩
def r18_2 : Reg := ⟨[⟨(some 4), (.mv (.c (.int .i64 0))), none, 0⟩], [], 0, false, []⟩
def r18_3 : Reg := ⟨[⟨(some 8), (.mv (.t 0)), none, 0⟩, ⟨(some 9), (.mv (.t 1)), none, 0⟩, ⟨(some 10), (.bin .quo (.int .i64) (.t 8) (.t 9)), none, 0⟩, ⟨(some 5), (.mv (.t 10)), none, 0⟩], [8, 9, 10], 0, false, []⟩
def r18_4 : Reg := ⟨[⟨(some 11), (.mv (.t 0)), none, 0⟩, ⟨(some 12), (.mv (.t 1)), none, 0⟩, ⟨(some 13), (.bin .rem (.int .i64) (.t 11) (.t 12)), none, 0⟩, ⟨(some 14), (.bin .lss (.int .i64) (.t 13) (.c (.int .i64 0))), none, 0⟩], [11, 12, 13], 0, false, []⟩
def r18_5 : Reg := ⟨[⟨(some 15), (.mv (.t 5)), none, 0⟩, ⟨(some 16), (.bin .sub (.int .i64) (.t 15) (.c (.int .i64 1))), none, 0⟩, ⟨(some 5), (.mv (.t 16)), none, 0⟩], [15, 16], 0, false, []⟩
def r18_6 : Reg := ⟨[⟨(some 17), (.mv (.t 5)), none, 0⟩, ⟨(some 4), (.mv (.t 17)), none, 0⟩], [17], 0, false, []⟩
def sf18 : SFn := { np := 2, vars := [0, 1, 4, 5, 7, 14], body := (.seq (.reg r18_0) (.seq (.seq (.reg r18_1) (.cond (.t 7) (.seq (.reg r18_2) (.seq (.kill [0, 1, 5, 7, 14]) .ret)) .skip)) (.seq (.reg r18_3) (.seq (.seq (.reg r18_4) (.cond (.t 14) (.reg r18_5) .skip)) (.seq (.reg r18_6) (.seq (.kill [0, 1, 5, 7, 14]) .ret)))))), res := [(.tmp 4)] }
/-! calliope/num.Mod -/
def r19_0 : Reg := ⟨[⟨(some 4), (.mv (.c (.int .i64 0))), none, 0⟩], [], 0, false, []⟩
def r19_1 : Reg := ⟨[⟨(some 6), (.mv (.t 1)), none, 0⟩, ⟨(some 7), (.bin .lss (.int .i64) (.t 6) (.c (.int .i64 1))), none, 0⟩], [6], 0, false, []⟩
def r19_2 : Reg := ⟨[⟨(some 4), (.mv (.c (.int .i64 0))), none, 0⟩], [], 0, false, []⟩
def r19_3 : Reg := ⟨[⟨(some 8), (.mv (.t 0)), none, 0⟩, ⟨(some 9), (.mv (.t 1)), none, 0⟩, ⟨(some 10), (.bin .rem (.int .i64) (.t 8) (.t 9)), none, 0⟩, ⟨(some 5), (.mv (.t 10)), none, 0⟩], [8, 9, 10], 0, false, []⟩
def r19_4 : Reg := ⟨[⟨(some 11), (.mv (.t 5)), none, 0⟩, ⟨(some 12), (.bin .lss (.int .i64) (.t 11) (.c (.int .i64 0))), none, 0⟩], [11], 0, false, []⟩
def r19_5 : Reg := ⟨[⟨(some 13), (.mv (.t 5)), none, 0⟩, ⟨(some 14), (.mv (.t 1)), none, 0⟩, ⟨(some 15), (.bin .add (.int .i64) (.t 13) (.t 14)), none, 0⟩, ⟨(some 5), (.mv (.t 15)), none, 0⟩], [13, 14, 15], 0, false, []⟩
def r19_6 : Reg := ⟨[⟨(some 16), (.mv (.t 5)), none, 0⟩, ⟨(some 4), (.mv (.t 16)), none, 0⟩], [16], 0, false, []⟩
def sf19 : SFn := { np := 2, vars := [0, 1, 4, 5, 7, 12], body := (.seq (.reg r19_0) (.seq (.seq (.reg r19_1) (.cond (.t 7) (.seq (.reg r19_2) (.seq (.kill [0, 1, 5, 7, 12]) .ret)) .skip)) (.seq (.reg r19_3) (.seq (.seq (.reg r19_4) (.cond (.t 12) (.reg r19_5) .skip)) (.seq (.reg r19_6) (.seq (.kill [0, 1, 5, 7, 12]) .ret)))))), res := [(.tmp 4)] }
/-! calliope/calliopelaw03.down -/
def r20_0 : Reg := ⟨[⟨(some 4), (.mv (.c (.int .i64 0))), none, 0⟩], [], 0, false, []⟩
def r20_1 : Reg := ⟨[⟨(some 5), (.mv (.t 0)), none, 0⟩, ⟨(some 6), (.mv (.t 1)), none, 0⟩, ⟨(some 7), (.bin .rem (.int .i64) (.t 5) (.t 6)), none, 0⟩, ⟨(some 8), (.bin .lss (.int .i64) (.t 7) (.c (.int .i64 0))), none, 0⟩], [5, 6, 7], 0, false, []⟩
def r20_2 : Reg := ⟨[⟨(some 4), (.mv (.c (.int .i64 1))), none, 0⟩], [], 0, false, []⟩
def r20_3 : Reg := ⟨[⟨(some 4), (.mv (.c (.int .i64 0))), none, 0⟩], [], 0, false, []⟩
def sf20 : SFn := { np := 2, vars := [0, 1, 4, 8], body := (.seq (.reg r20_0) (.seq (.seq (.reg r20_1) (.cond (.t 8) (.seq (.reg r20_2) (.seq (.kill [0, 1, 8]) .ret)) .skip)) (.seq (.reg r20_3) (.seq (.kill [0, 1, 8]) .ret)))), res := [(.tmp 4)] }
/-! calliope/calliopelaw03.add -/
def r21_0 : Reg := ⟨[⟨(some 4), (.mv (.c (.int .i64 0))), none, 0⟩], [], 0, false, []⟩
def r21_1 : Reg := ⟨[⟨(some 5), (.mv (.t 1)), none, 0⟩, ⟨(some 6), (.bin .gtr (.int .i64) (.t 5) (.c (.int .i64 0))), none, 0⟩, ⟨(some 7), (.mv (.t 6)), none, 0⟩, ⟨(some 8), (.mv (.t 0)), (some (7, true)), 0⟩, ⟨(some 9), (.mv (.t 1)), (some (7, true)), 0⟩, ⟨(some 10), (.bin .sub (.int .i64) (.c (.int .i64 9223372036854775807)) (.t 9)), (some (7, true)), 0⟩, ⟨(some 11), (.bin .gtr (.int .i64) (.t 8) (.t 10)), (some (7, true)), 0⟩, ⟨(some 12), (.pick (.t 7) (.t 11) (.c (.bool false))), none, 0⟩], [5, 6, 7, 8, 9, 10, 11], 0, false, []⟩
def r21_2 : Reg := ⟨[⟨(some 4), (.mv (.c (.int .i64 9223372036854775807))), none, 0⟩], [], 0, false, []⟩
def r21_3 : Reg := ⟨[⟨(some 13), (.mv (.t 1)), none, 0⟩, ⟨(some 14), (.bin .lss (.int .i64) (.t 13) (.c (.int .i64 0))), none, 0⟩, ⟨(some 15), (.mv (.t 14)), none, 0⟩, ⟨(some 16), (.mv (.t 0)), (some (15, true)), 0⟩, ⟨(some 17), (.mv (.t 1)), (some (15, true)), 0⟩, ⟨(some 18), (.bin .sub (.int .i64) (.c (.int .i64 (-9223372036854775808))) (.t 17)), (some (15, true)), 0⟩, ⟨(some 19), (.bin .lss (.int .i64) (.t 16) (.t 18)), (some (15, true)), 0⟩, ⟨(some 20), (.pick (.t 15) (.t 19) (.c (.bool false))), none, 0⟩], [13, 14, 15, 16, 17, 18, 19], 0, false, []⟩
def r21_4 : Reg := ⟨[⟨(some 4), (.mv (.c (.int .i64 (-9223372036854775808)))), none, 0⟩], [], 0, false, []⟩
def r21_5 : Reg := ⟨[⟨(some 21), (.mv (.t 0)), none, 0⟩, ⟨(some 22), (.mv (.t 1)), none, 0⟩, ⟨(some 23), (.bin .add (.int .i64) (.t 21) (.t 22)), none, 0⟩, ⟨(some 4), (.mv (.t 23)), none, 0⟩], [21, 22, 23], 0, false, []⟩
def sf21 : SFn := { np := 2, vars := [0, 1, 4, 12, 20], body := (.seq (.reg r21_0) (.seq (.seq (.reg r21_1) (.cond (.t 12) (.seq (.reg r21_2) (.seq (.kill [0, 1, 12, 20]) .ret)) .skip)) (.seq (.seq (.reg r21_3) (.cond (.t 20) (.seq (.reg r21_4) (.seq (.kill [0, 1, 12, 20]) .ret)) .skip)) (.seq (.reg r21_5) (.seq (.kill [0, 1, 12, 20]) .ret))))), res := [(.tmp 4)] }
/-! calliope/num.Add -/
def r22_0 : Reg := ⟨[⟨(some 2), (.mv (.c (.int .i64 0))), none, 0⟩], [], 0, false, []⟩
def r22_1 : Reg := ⟨[⟨(some 3), (.mv (.c (.int .i64 0))), none, 0⟩], [], 0, false, []⟩
def r22_2 : Reg := ⟨[⟨(some 7), (.mv (.t 0)), none, 0⟩, ⟨(some 8), (.len .slice (.t 7)), none, 0⟩, ⟨(some 9), (.mv (.c (.int .i64 0))), none, 0⟩], [], 0, false, []⟩
def r22_3 : Reg := ⟨[⟨(some 10), (.bin .lss (.int .i64) (.t 9) (.t 8)), none, 0⟩], [], 0, false, []⟩
def r22_4 : Reg := ⟨[⟨(some 11), (.idxS 1 (.t 7) (.t 9)), none, 0⟩, ⟨(some 12), (.load none (.t 11)), none, 0⟩, ⟨(some 5), (.mv (.t 12)), none, 0⟩], [11, 12], 0, false, []⟩
def r22_5 : Reg := ⟨[⟨(some 13), (.mv (.t 3)), none, 0⟩, ⟨(some 14), (.mv (.t 5)), none, 0⟩, ⟨(some 15), (.bin .add (.int .i64) (.t 13) (.t 14)), none, 0⟩, ⟨(some 6), (.mv (.t 15)), none, 0⟩], [13, 14, 15], 0, false, []⟩
def r22_6 : Reg := ⟨[⟨(some 18), (.mv (.t 3)), none, 0⟩, ⟨(some 19), (.bin .gtr (.int .i64) (.t 18) (.c (.int .i64 0))), none, 0⟩, ⟨(some 20), (.mv (.t 19)), none, 0⟩, ⟨(some 21), (.mv (.t 5)), (some (20, true)), 0⟩, ⟨(some 22), (.bin .gtr (.int .i64) (.t 21) (.c (.int .i64 0))), (some (20, true)), 0⟩, ⟨(some 23), (.pick (.t 20) (.t 22) (.c (.bool false))), none, 0⟩, ⟨(some 24), (.mv (.t 23)), none, 0⟩, ⟨(some 25), (.mv (.t 6)), (some (24, true)), 0⟩, ⟨(some 26), (.bin .lss (.int .i64) (.t 25) (.c (.int .i64 0))), (some (24, true)), 0⟩, ⟨(some 27), (.pick (.t 24) (.t 26) (.c (.bool false))), none, 0⟩, ⟨(some 17), (.mv (.t 27)), none, 0⟩], [18, 19, 20, 21, 22, 23, 24, 25, 26, 27], 0, false, []⟩
def r22_7 : Reg := ⟨[⟨(some 3), (.mv (.c (.int .i64 9223372036854775807))), none, 0⟩], [], 0, false, []⟩
def r22_8 : Reg := ⟨[⟨(some 29), (.mv (.t 3)), none, 0⟩, ⟨(some 30), (.bin .lss (.int .i64) (.t 29) (.c (.int .i64 0))), none, 0⟩, ⟨(some 31), (.mv (.t 30)), none, 0⟩, ⟨(some 32), (.mv (.t 5)), (some (31, true)), 0⟩, ⟨(some 33), (.bin .lss (.int .i64) (.t 32) (.c (.int .i64 0))), (some (31, true)), 0⟩, ⟨(some 34), (.pick (.t 31) (.t 33) (.c (.bool false))), none, 0⟩, ⟨(some 35), (.mv (.t 34)), none, 0⟩, ⟨(some 36), (.mv (.t 6)), (some (35, true)), 0⟩, ⟨(some 37), (.bin .geq (.int .i64) (.t 36) (.c (.int .i64 0))), (some (35, true)), 0⟩, ⟨(some 38), (.pick (.t 35) (.t 37) (.c (.bool false))), none, 0⟩, ⟨(some 28), (.mv (.t 38)), none, 0⟩], [29, 30, 31, 32, 33, 34, 35, 36, 37, 38], 0, false, []⟩
def r22_9 : Reg := ⟨[⟨(some 3), (.mv (.c (.int .i64 (-9223372036854775808)))), none, 0⟩], [], 0, false, []⟩
def r22_10 : Reg := ⟨[⟨(some 16), (.mv (.t 6)), none, 0⟩, ⟨(some 3), (.mv (.t 16)), none, 0⟩], [16], 0, false, []⟩
def r22_11 : Reg := ⟨[⟨(some 39), (.bin .add (.int .i64) (.t 9) (.c (.int .i64 1))), none, 0⟩, ⟨(some 9), (.mv (.t 39)), none, 0⟩], [39], 0, false, []⟩
def l22_12 : SC := (.seq (.seq (.reg r22_3) (.seq (.cond (.t 10) .skip (.seq (.kill [0, 2, 5, 6, 7, 8, 9, 10, 17, 28]) (.exit 0))) (.seq (.block 1 (.seq (.reg r22_4) (.seq (.reg r22_5) (.block 2 (.seq (.reg r22_6) (.cond (.t 17) (.reg r22_7) (.seq (.reg r22_8) (.cond (.t 28) (.reg r22_9) (.reg r22_10))))))))) (.reg r22_11)))) (.kill [0, 2, 5, 6, 10, 17, 28]))
def r22_13 : Reg := ⟨[⟨(some 40), (.mv (.t 3)), none, 0⟩, ⟨(some 2), (.mv (.t 40)), none, 0⟩], [40], 0, false, []⟩
def sf22 : SFn := { np := 1, vars := [0, 2, 3, 5, 6, 7, 8, 9, 10, 17, 28], body := (.seq (.reg r22_0) (.seq (.reg r22_1) (.seq (.seq (.reg r22_2) (.block 0 (.seq (.kill [0, 2, 5, 6, 10, 17, 28]) (.loop l22_12)))) (.seq (.reg r22_13) (.seq (.kill [0, 3, 5, 6, 7, 8, 9, 10, 17, 28]) .ret))))), res := [(.tmp 2)] }
/-! calliope/num.Mix -/
def r23_0 : Reg := ⟨[⟨(some 2), (.mv (.c (.int .i64 0))), none, 0⟩], [], 0, false, []⟩
def r23_1 : Reg := ⟨[⟨(some 3), (.mv (.t 0)), none, 0⟩, ⟨(some 4), (.call 22 [(.t 3)]), none, 0⟩, ⟨(some 5), (.callP 16 [(.t 4)]), none, 0⟩, ⟨(some 2), (.mv (.t 5)), none, 0⟩], [3, 4, 5], 0, true, []⟩
def sf23 : SFn := { np := 1, vars := [0, 2], body := (.seq (.reg r23_0) (.seq (.reg r23_1) (.seq (.kill [0]) .ret))), res := [(.tmp 2)] }
/-! calliope/num.Peak -/
def r24_0 : Reg := ⟨[⟨(some 2), (.mv (.c (.int .i64 0))), none, 0⟩], [], 0, false, []⟩
def r24_1 : Reg := ⟨[⟨(some 3), (.mv (.c (.int .i64 0))), none, 0⟩], [], 0, false, []⟩
def r24_2 : Reg := ⟨[⟨(some 6), (.mv (.t 0)), none, 0⟩, ⟨(some 7), (.len .slice (.t 6)), none, 0⟩, ⟨(some 8), (.mv (.c (.int .i64 0))), none, 0⟩], [], 0, false, []⟩
def r24_3 : Reg := ⟨[⟨(some 9), (.bin .lss (.int .i64) (.t 8) (.t 7)), none, 0⟩], [], 0, false, []⟩
def r24_4 : Reg := ⟨[⟨(some 10), (.idxS 1 (.t 6) (.t 8)), none, 0⟩, ⟨(some 11), (.load none (.t 10)), none, 0⟩, ⟨(some 5), (.mv (.t 11)), none, 0⟩], [10, 11], 0, false, []⟩
def r24_5 : Reg := ⟨[⟨(some 12), (.mv (.t 3)), none, 0⟩, ⟨(some 13), (.mv (.t 5)), none, 0⟩, ⟨(some 14), (.callP 17 [(.t 13)]), none, 0⟩, ⟨(some 15), (.mx true [(.t 12), (.t 14)]), none, 0⟩, ⟨(some 3), (.mv (.t 15)), none, 0⟩], [12, 13, 14, 15], 0, false, []⟩
def r24_6 : Reg := ⟨[⟨(some 16), (.bin .add (.int .i64) (.t 8) (.c (.int .i64 1))), none, 0⟩, ⟨(some 8), (.mv (.t 16)), none, 0⟩], [16], 0, false, []⟩
def l24_7 : SC := (.seq (.seq (.reg r24_3) (.seq (.cond (.t 9) .skip (.seq (.kill [0, 2, 5, 6, 7, 8, 9]) (.exit 0))) (.seq (.block 1 (.seq (.reg r24_4) (.reg r24_5))) (.reg r24_6)))) (.kill [0, 2, 5, 9]))
def r24_8 : Reg := ⟨[⟨(some 17), (.mv (.t 3)), none, 0⟩, ⟨(some 2), (.mv (.t 17)), none, 0⟩], [17], 0, false, []⟩
def sf24 : SFn := { np := 1, vars := [0, 2, 3, 5, 6, 7, 8, 9], body := (.seq (.reg r24_0) (.seq (.reg r24_1) (.seq (.seq (.reg r24_2) (.block 0 (.seq (.kill [0, 2, 5, 9]) (.loop l24_7)))) (.seq (.reg r24_8) (.seq (.kill [0, 3, 5, 6, 7, 8, 9]) .ret))))), res := [(.tmp 2)] }
theorem c3 : cFn Try.prog 3 = some sf3 := by kernel_rfl
theorem k3 : callable Try.prog 3 = true := by kernel_rfl
theorem p3 : ∀ F, Try.prog.funcs[3]? = some F → F.params.size ≤ F.ntmps := fun F h => by rw [Try.func3] at h; cases h; exact of_decide_eq_true (by kernel_rfl)
theorem c4 : cFn Try.prog 4 = some sf4 := by kernel_rfl
theorem k4 : callable Try.prog 4 = true := by kernel_rfl
theorem p4 : ∀ F, Try.prog.funcs[4]? = some F → F.params.size ≤ F.ntmps := fun F h => by rw [Try.func4] at h; cases h; exact of_decide_eq_true (by kernel_rfl)
theorem c5 : cFn Try.prog 5 = some sf5 := by kernel_rfl
theorem k5 : callable Try.prog 5 = true := by kernel_rfl
theorem p5 : ∀ F, Try.prog.funcs[5]? = some F → F.params.size ≤ F.ntmps := fun F h => by rw [Try.func5] at h; cases h; exact of_decide_eq_true (by kernel_rfl)
theorem c6 : cFn Try.prog 6 = some sf6 := by kernel_rfl
theorem k6 : callable Try.prog 6 = true := by kernel_rfl
theorem p6 : ∀ F, Try.prog.funcs[6]? = some F → F.params.size ≤ F.ntmps := fun F h => by rw [Try.func6] at h; cases h; exact of_decide_eq_true (by kernel_rfl)
theorem c7 : cFn Try.prog 7 = some sf7 := by kernel_rfl
theorem k7 : callable Try.prog 7 = true := by kernel_rfl
theorem p7 : ∀ F, Try.prog.funcs[7]? = some F → F.params.size ≤ F.ntmps := fun F h => by rw [Try.func7] at h; cases h; exact of_decide_eq_true (by kernel_rfl)
theorem c8 : cFn Try.prog 8 = some sf8 := by kernel_rfl
theorem k8 : callable Try.prog 8 = true := by kernel_rfl
theorem p8 : ∀ F, Try.prog.funcs[8]? = some F → F.params.size ≤ F.ntmps := fun F h => by rw [Try.func8] at h; cases h; exact of_decide_eq_true (by kernel_rfl)
theorem c9 : cFn Try.prog 9 = some sf9 := by kernel_rfl
theorem k9 : callable Try.prog 9 = true := by kernel_rfl
theorem p9 : ∀ F, Try.prog.funcs[9]? = some F → F.params.size ≤ F.ntmps := fun F h => by rw [Try.func9] at h; cases h; exact of_decide_eq_true (by kernel_rfl)
theorem c10 : cFn Try.prog 10 = some sf10 := by kernel_rfl
theorem k10 : callable Try.prog 10 = true := by kernel_rfl
theorem p10 : ∀ F, Try.prog.funcs[10]? = some F → F.params.size ≤ F.ntmps := fun F h => by rw [Try.func10] at h; cases h; exact of_decide_eq_true (by kernel_rfl)
theorem c11 : cFn Try.prog 11 = some sf11 := by kernel_rfl
theorem k11 : callable Try.prog 11 = true := by kernel_rfl
theorem p11 : ∀ F, Try.prog.funcs[11]? = some F → F.params.size ≤ F.ntmps := fun F h => by rw [Try.func11] at h; cases h; exact of_decide_eq_true (by kernel_rfl)
theorem c12 : cFn Try.prog 12 = some sf12 := by kernel_rfl
theorem k12 : callable Try.prog 12 = true := by kernel_rfl
theorem p12 : ∀ F, Try.prog.funcs[12]? = some F → F.params.size ≤ F.ntmps := fun F h => by rw [Try.func12] at h; cases h; exact of_decide_eq_true (by kernel_rfl)
theorem c13 : cFn Try.prog 13 = some sf13 := by kernel_rfl
theorem k13 : callable Try.prog 13 = true := by kernel_rfl
theorem p13 : ∀ F, Try.prog.funcs[13]? = some F → F.params.size ≤ F.ntmps := fun F h => by rw [Try.func13] at h; cases h; exact of_decide_eq_true (by kernel_rfl)
theorem c14 : cFn Try.prog 14 = some sf14 := by kernel_rfl
theorem k14 : callable Try.prog 14 = true := by kernel_rfl
theorem p14 : ∀ F, Try.prog.funcs[14]? = some F → F.params.size ≤ F.ntmps := fun F h => by rw [Try.func14] at h; cases h; exact of_decide_eq_true (by kernel_rfl)
theorem c15 : cFn Try.prog 15 = some sf15 := by kernel_rfl
theorem k15 : callable Try.prog 15 = true := by kernel_rfl
theorem p15 : ∀ F, Try.prog.funcs[15]? = some F → F.params.size ≤ F.ntmps := fun F h => by rw [Try.func15] at h; cases h; exact of_decide_eq_true (by kernel_rfl)
theorem c16 : cFn Try.prog 16 = some sf16 := by kernel_rfl
theorem k16 : callable Try.prog 16 = true := by kernel_rfl
theorem p16 : ∀ F, Try.prog.funcs[16]? = some F → F.params.size ≤ F.ntmps := fun F h => by rw [Try.func16] at h; cases h; exact of_decide_eq_true (by kernel_rfl)
theorem c17 : cFn Try.prog 17 = some sf17 := by kernel_rfl
theorem k17 : callable Try.prog 17 = true := by kernel_rfl
theorem p17 : ∀ F, Try.prog.funcs[17]? = some F → F.params.size ≤ F.ntmps := fun F h => by rw [Try.func17] at h; cases h; exact of_decide_eq_true (by kernel_rfl)
theorem c18 : cFn Try.prog 18 = some sf18 := by kernel_rfl
theorem k18 : callable Try.prog 18 = true := by kernel_rfl
theorem p18 : ∀ F, Try.prog.funcs[18]? = some F → F.params.size ≤ F.ntmps := fun F h => by rw [Try.func18] at h; cases h; exact of_decide_eq_true (by kernel_rfl)
theorem c19 : cFn Try.prog 19 = some sf19 := by kernel_rfl
theorem k19 : callable Try.prog 19 = true := by kernel_rfl
theorem p19 : ∀ F, Try.prog.funcs[19]? = some F → F.params.size ≤ F.ntmps := fun F h => by rw [Try.func19] at h; cases h; exact of_decide_eq_true (by kernel_rfl)
theorem c20 : cFn Try.prog 20 = some sf20 := by kernel_rfl
theorem k20 : callable Try.prog 20 = true := by kernel_rfl
theorem p20 : ∀ F, Try.prog.funcs[20]? = some F → F.params.size ≤ F.ntmps := fun F h => by rw [Try.func20] at h; cases h; exact of_decide_eq_true (by kernel_rfl)
theorem c21 : cFn Try.prog 21 = some sf21 := by kernel_rfl
theorem k21 : callable Try.prog 21 = true := by kernel_rfl
theorem p21 : ∀ F, Try.prog.funcs[21]? = some F → F.params.size ≤ F.ntmps := fun F h => by rw [Try.func21] at h; cases h; exact of_decide_eq_true (by kernel_rfl)
theorem c22 : cFn Try.prog 22 = some sf22 := by kernel_rfl
theorem k22 : callable Try.prog 22 = true := by kernel_rfl
theorem p22 : ∀ F, Try.prog.funcs[22]? = some F → F.params.size ≤ F.ntmps := fun F h => by rw [Try.func22] at h; cases h; exact of_decide_eq_true (by kernel_rfl)
theorem c23 : cFn Try.prog 23 = some sf23 := by kernel_rfl
theorem k23 : callable Try.prog 23 = true := by kernel_rfl
theorem p23 : ∀ F, Try.prog.funcs[23]? = some F → F.params.size ≤ F.ntmps := fun F h => by rw [Try.func23] at h; cases h; exact of_decide_eq_true (by kernel_rfl)
theorem c24 : cFn Try.prog 24 = some sf24 := by kernel_rfl
theorem k24 : callable Try.prog 24 = true := by kernel_rfl
theorem p24 : ∀ F, Try.prog.funcs[24]? = some F → F.params.size ≤ F.ntmps := fun F h => by rw [Try.func24] at h; cases h; exact of_decide_eq_true (by kernel_rfl)
def tab : FuncId → Option SFn := tabL [(3, sf3), (4, sf4), (5, sf5), (6, sf6), (7, sf7), (8, sf8), (9, sf9), (10, sf10), (11, sf11), (12, sf12), (13, sf13), (14, sf14), (15, sf15), (16, sf16), (17, sf17), (18, sf18), (19, sf19), (20, sf20), (21, sf21), (22, sf22), (23, sf23), (24, sf24)]
theorem tabOk : TabOk Try.prog tab :=
  tabOk_cons c3 k3 p3 (tabOk_cons c4 k4 p4 (tabOk_cons c5 k5 p5 (tabOk_cons c6 k6 p6 (tabOk_cons c7 k7 p7 (tabOk_cons c8 k8 p8 (tabOk_cons c9 k9 p9 (tabOk_cons c10 k10 p10 (tabOk_cons c11 k11 p11 (tabOk_cons c12 k12 p12 (tabOk_cons c13 k13 p13 (tabOk_cons c14 k14 p14 (tabOk_cons c15 k15 p15 (tabOk_cons c16 k16 p16 (tabOk_cons c17 k17 p17 (tabOk_cons c18 k18 p18 (tabOk_cons c19 k19 p19 (tabOk_cons c20 k20 p20 (tabOk_cons c21 k21 p21 (tabOk_cons c22 k22 p22 (tabOk_cons c23 k23 p23 (tabOk_cons c24 k24 p24 (tabOk_nil _))))))))))))))))))))))
theorem t3 : tab 3 = some sf3 := rfl
theorem t4 : tab 4 = some sf4 := rfl
theorem t5 : tab 5 = some sf5 := rfl
theorem t6 : tab 6 = some sf6 := rfl
theorem t7 : tab 7 = some sf7 := rfl
theorem t8 : tab 8 = some sf8 := rfl
theorem t9 : tab 9 = some sf9 := rfl
theorem t10 : tab 10 = some sf10 := rfl
theorem t11 : tab 11 = some sf11 := rfl
theorem t12 : tab 12 = some sf12 := rfl
theorem t13 : tab 13 = some sf13 := rfl
theorem t14 : tab 14 = some sf14 := rfl
theorem t15 : tab 15 = some sf15 := rfl
theorem t16 : tab 16 = some sf16 := rfl
theorem t17 : tab 17 = some sf17 := rfl
theorem t18 : tab 18 = some sf18 := rfl
theorem t19 : tab 19 = some sf19 := rfl
theorem t20 : tab 20 = some sf20 := rfl
theorem t21 : tab 21 = some sf21 := rfl
theorem t22 : tab 22 = some sf22 := rfl
theorem t23 : tab 23 = some sf23 := rfl
theorem t24 : tab 24 = some sf24 := rfl
end Go.Proofs.Ythgmblahjndpaaa
