/-
  The abstract forms of this seat's functions, by program, and that they are the ones that the model's code has. Conditions: none.
-/
import Derived.Test.YtmmfgbifbbiihaaRows
import Derived.Test.YtmmfgbifbbiihaaSxP
import Derived.Test.YtmmfgbifbbiihaaNetF
namespace Go.Proofs.Ytmmfgbifbbiihaa
open Go Go.Sx
set_option maxRecDepth 100000
/-! calliope/calliopelaw08.LapCounts -/
def r3_0 : Reg := ⟨[⟨(some 2), (.mv (.c (.bool false))), none, 0⟩], [], 0, false, []⟩
def r3_1 : Reg := ⟨[⟨(some 4), (.mv (.t 0)), none, 0⟩, ⟨(some 5), (.callP 8 [(.t 4)]), none, 0⟩, ⟨(some 3), (.mv (.t 5)), none, 0⟩], [4, 5], 0, false, []⟩
def r3_2 : Reg := ⟨[⟨(some 6), (.mv (.t 0)), none, 0⟩, ⟨(some 7), (.bin .lss (.int .i64) (.t 6) (.c (.int .i64 1))), none, 0⟩], [6], 0, false, []⟩
def r3_3 : Reg := ⟨[⟨(some 8), (.mv (.t 3)), none, 0⟩, ⟨(some 9), (.bin .eql (.int .i64) (.t 8) (.c (.int .i64 0))), none, 0⟩, ⟨(some 10), (.mv (.t 9)), none, 0⟩, ⟨(some 11), (.callP 9 []), (some (10, true)), 0⟩, ⟨(some 12), (.pick (.t 10) (.t 11) (.c (.bool false))), none, 0⟩, ⟨(some 2), (.mv (.t 12)), none, 0⟩], [8, 9, 10, 11, 12], 0, false, []⟩
def r3_4 : Reg := ⟨[⟨(some 13), (.mv (.t 3)), none, 0⟩, ⟨(some 14), (.bin .geq (.int .i64) (.t 13) (.c (.int .i64 1))), none, 0⟩, ⟨(some 15), (.mv (.t 14)), none, 0⟩, ⟨(some 16), (.mv (.t 3)), (some (15, true)), 0⟩, ⟨(some 17), (.bin .sub (.int .i64) (.t 16) (.c (.int .i64 1))), (some (15, true)), 0⟩, ⟨(some 18), (.mv (.t 0)), (some (15, true)), 0⟩, ⟨(some 19), (.bin .sub (.int .i64) (.t 18) (.c (.int .i64 1))), (some (15, true)), 0⟩, ⟨(some 20), (.bin .quo (.int .i64) (.t 19) (.c (.int .i64 16))), (some (15, true)), 0⟩, ⟨(some 21), (.bin .eql (.int .i64) (.t 17) (.t 20)), (some (15, true)), 0⟩, ⟨(some 22), (.pick (.t 15) (.t 21) (.c (.bool false))), none, 0⟩, ⟨(some 23), (.mv (.t 22)), none, 0⟩, ⟨(some 24), (.callP 9 []), (some (23, true)), 0⟩, ⟨(some 25), (.pick (.t 23) (.t 24) (.c (.bool false))), none, 0⟩, ⟨(some 2), (.mv (.t 25)), none, 0⟩], [13, 14, 15, 16, 17, 18, 19, 20, 21, 22, 23, 24, 25], 0, false, []⟩
def sf3 : SFn := { np := 1, vars := [0, 2, 3, 7], body := (.seq (.reg r3_0) (.seq (.reg r3_1) (.seq (.seq (.reg r3_2) (.cond (.t 7) (.seq (.reg r3_3) (.seq (.kill [0, 3, 7]) .ret)) .skip)) (.seq (.reg r3_4) (.seq (.kill [0, 3, 7]) .ret))))), res := [(.tmp 2)] }
/-! calliope/calliopelaw08.LapBlocks -/
def r4_0 : Reg := ⟨[⟨(some 4), (.mv (.c (.bool false))), none, 0⟩], [], 0, false, []⟩
def r4_1 : Reg := ⟨[⟨(some 11), (.mv (.t 0)), none, 0⟩, ⟨(some 12), (.call 10 [(.t 11)]), none, 0⟩, ⟨(some 0), (.mv (.t 12)), none, 0⟩], [11, 12], 0, true, []⟩
def r4_2 : Reg := ⟨[⟨(some 13), (.mv (.t 0)), none, 0⟩, ⟨(some 14), (.call 11 [(.t 13)]), none, 0⟩, ⟨(some 5), (.mv (.t 14)), none, 0⟩], [13, 14], 0, true, []⟩
def r4_3 : Reg := ⟨[⟨(some 15), (.mv (.t 5)), none, 0⟩, ⟨(some 16), (.len .slice (.t 15)), none, 0⟩, ⟨(some 17), (.mv (.t 0)), none, 0⟩, ⟨(some 18), (.len .slice (.t 17)), none, 0⟩, ⟨(some 19), (.bin .add (.int .i64) (.t 18) (.c (.int .i64 15))), none, 0⟩, ⟨(some 20), (.bin .quo (.int .i64) (.t 19) (.c (.int .i64 16))), none, 0⟩, ⟨(some 21), (.bin .neq (.int .i64) (.t 16) (.t 20)), none, 0⟩, ⟨(some 22), (.mv (.t 21)), none, 0⟩, ⟨(some 23), (.mv (.t 0)), (some (22, false)), 0⟩, ⟨(some 24), (.len .slice (.t 23)), (some (22, false)), 0⟩, ⟨(some 25), (.callP 8 [(.t 24)]), (some (22, false)), 0⟩, ⟨(some 26), (.mv (.t 5)), (some (22, false)), 0⟩, ⟨(some 27), (.len .slice (.t 26)), (some (22, false)), 0⟩, ⟨(some 28), (.bin .neq (.int .i64) (.t 25) (.t 27)), (some (22, false)), 0⟩, ⟨(some 29), (.pick (.t 22) (.c (.bool true)) (.t 28)), none, 0⟩], [15, 16, 17, 18, 19, 20, 21, 22, 23, 24, 25, 26, 27, 28], 0, false, []⟩
def r4_4 : Reg := ⟨[⟨(some 4), (.mv (.c (.bool false))), none, 0⟩], [], 0, false, []⟩
def r4_5 : Reg := ⟨[⟨(some 6), (.mv (.c (.int .i64 0))), none, 0⟩], [], 0, false, []⟩
def r4_6 : Reg := ⟨[⟨(some 30), (.mv (.t 6)), none, 0⟩, ⟨(some 31), (.mv (.t 5)), none, 0⟩, ⟨(some 32), (.len .slice (.t 31)), none, 0⟩, ⟨(some 33), (.bin .mul (.int .i64) (.c (.int .i64 16)) (.t 32)), none, 0⟩, ⟨(some 34), (.bin .lss (.int .i64) (.t 30) (.t 33)), none, 0⟩], [30, 31, 32, 33], 0, false, []⟩
def r4_7 : Reg := ⟨[⟨(some 7), (.mv (.c (.int .i64 0))), none, 0⟩], [], 0, false, []⟩
def r4_8 : Reg := ⟨[⟨(some 37), (.mv (.t 6)), none, 0⟩, ⟨(some 38), (.mv (.t 0)), none, 0⟩, ⟨(some 39), (.len .slice (.t 38)), none, 0⟩, ⟨(some 40), (.bin .lss (.int .i64) (.t 37) (.t 39)), none, 0⟩], [37, 38, 39], 0, false, []⟩
def r4_9 : Reg := ⟨[⟨(some 41), (.mv (.t 0)), none, 0⟩, ⟨(some 42), (.mv (.t 6)), none, 0⟩, ⟨(some 43), (.idxS 1 (.t 41) (.t 42)), none, 0⟩, ⟨(some 44), (.load none (.t 43)), none, 0⟩, ⟨(some 7), (.mv (.t 44)), none, 0⟩], [41, 42, 43, 44], 0, false, []⟩
def r4_10 : Reg := ⟨[⟨(some 45), (.mv (.t 5)), none, 0⟩, ⟨(some 46), (.mv (.t 6)), none, 0⟩, ⟨(some 47), (.bin .quo (.int .i64) (.t 46) (.c (.int .i64 16))), none, 0⟩, ⟨(some 48), (.mv (.t 6)), none, 0⟩, ⟨(some 49), (.bin .rem (.int .i64) (.t 48) (.c (.int .i64 16))), none, 0⟩, ⟨(some 50), (.idxS 16 (.t 45) (.t 47)), none, 0⟩, ⟨(some 51), (.idxA 16 1 (.t 50) (.t 49)), none, 0⟩, ⟨(some 52), (.load none (.t 51)), none, 0⟩, ⟨(some 53), (.mv (.t 7)), none, 0⟩, ⟨(some 54), (.bin .neq (.int .i64) (.t 52) (.t 53)), none, 0⟩], [45, 46, 47, 48, 49, 50, 51, 52, 53], 0, false, []⟩
def r4_11 : Reg := ⟨[⟨(some 4), (.mv (.c (.bool false))), none, 0⟩], [], 0, false, []⟩
def r4_12 : Reg := ⟨[⟨(some 35), (.mv (.t 6)), none, 0⟩, ⟨(some 36), (.bin .add (.int .i64) (.t 35) (.c (.int .i64 1))), none, 0⟩, ⟨(some 6), (.mv (.t 36)), none, 0⟩], [35, 36], 0, false, []⟩
def l4_13 : SC := (.seq (.seq (.seq (.reg r4_6) (.cond (.t 34) .skip (.seq (.kill [0, 4, 6, 7, 8, 9, 10, 29, 34, 40, 54, 60, 65, 72, 76, 91]) (.exit 0)))) (.seq (.block 1 (.seq (.reg r4_7) (.seq (.seq (.reg r4_8) (.cond (.t 40) (.reg r4_9) .skip)) (.seq (.reg r4_10) (.cond (.t 54) (.seq (.reg r4_11) (.seq (.kill [0, 1, 5, 6, 7, 8, 9, 10, 29, 34, 40, 54, 60, 65, 72, 76, 91]) .ret)) .skip))))) (.reg r4_12))) (.kill [4, 7, 8, 9, 10, 29, 34, 40, 54, 60, 65, 72, 76, 91]))
def r4_14 : Reg := ⟨[⟨(some 55), (.mv (.t 5)), none, 0⟩, ⟨(some 56), (.mv (.t 1)), none, 0⟩, ⟨(some 57), (.call 12 [(.t 55), (.t 56)]), none, 0⟩, ⟨(some 8), (.mv (.t 57)), none, 0⟩], [55, 56, 57], 0, true, []⟩
def r4_15 : Reg := ⟨[⟨(some 58), (.mv (.t 1)), none, 0⟩, ⟨(some 9), (.mv (.t 58)), none, 0⟩], [58], 0, false, []⟩
def r4_16 : Reg := ⟨[⟨(some 59), (.mv (.t 9)), none, 0⟩, ⟨(some 60), (.bin .lss (.int .i64) (.t 59) (.c (.int .i64 0))), none, 0⟩], [59], 0, false, []⟩
def r4_17 : Reg := ⟨[⟨(some 9), (.mv (.c (.int .i64 0))), none, 0⟩], [], 0, false, []⟩
def r4_18 : Reg := ⟨[⟨(some 61), (.mv (.t 9)), none, 0⟩, ⟨(some 62), (.mv (.t 5)), none, 0⟩, ⟨(some 63), (.len .slice (.t 62)), none, 0⟩, ⟨(some 64), (.bin .mul (.int .i64) (.c (.int .i64 16)) (.t 63)), none, 0⟩, ⟨(some 65), (.bin .gtr (.int .i64) (.t 61) (.t 64)), none, 0⟩], [61, 62, 63, 64], 0, false, []⟩
def r4_19 : Reg := ⟨[⟨(some 66), (.mv (.t 5)), none, 0⟩, ⟨(some 67), (.len .slice (.t 66)), none, 0⟩, ⟨(some 68), (.bin .mul (.int .i64) (.c (.int .i64 16)) (.t 67)), none, 0⟩, ⟨(some 9), (.mv (.t 68)), none, 0⟩], [66, 67, 68], 0, false, []⟩
def r4_20 : Reg := ⟨[⟨(some 69), (.mv (.t 8)), none, 0⟩, ⟨(some 70), (.len .slice (.t 69)), none, 0⟩, ⟨(some 71), (.mv (.t 9)), none, 0⟩, ⟨(some 72), (.bin .neq (.int .i64) (.t 70) (.t 71)), none, 0⟩], [69, 70, 71], 0, false, []⟩
def r4_21 : Reg := ⟨[⟨(some 4), (.mv (.c (.bool false))), none, 0⟩], [], 0, false, []⟩
def r4_22 : Reg := ⟨[⟨(some 10), (.mv (.c (.int .i64 0))), none, 0⟩], [], 0, false, []⟩
def r4_23 : Reg := ⟨[⟨(some 73), (.mv (.t 10)), none, 0⟩, ⟨(some 74), (.mv (.t 8)), none, 0⟩, ⟨(some 75), (.len .slice (.t 74)), none, 0⟩, ⟨(some 76), (.bin .lss (.int .i64) (.t 73) (.t 75)), none, 0⟩], [73, 74, 75], 0, false, []⟩
def r4_24 : Reg := ⟨[⟨(some 79), (.mv (.t 8)), none, 0⟩, ⟨(some 80), (.mv (.t 10)), none, 0⟩, ⟨(some 81), (.idxS 1 (.t 79) (.t 80)), none, 0⟩, ⟨(some 82), (.load none (.t 81)), none, 0⟩, ⟨(some 83), (.mv (.t 5)), none, 0⟩, ⟨(some 84), (.mv (.t 10)), none, 0⟩, ⟨(some 85), (.bin .quo (.int .i64) (.t 84) (.c (.int .i64 16))), none, 0⟩, ⟨(some 86), (.mv (.t 10)), none, 0⟩, ⟨(some 87), (.bin .rem (.int .i64) (.t 86) (.c (.int .i64 16))), none, 0⟩, ⟨(some 88), (.idxS 16 (.t 83) (.t 85)), none, 0⟩, ⟨(some 89), (.idxA 16 1 (.t 88) (.t 87)), none, 0⟩, ⟨(some 90), (.load none (.t 89)), none, 0⟩, ⟨(some 91), (.bin .neq (.int .i64) (.t 82) (.t 90)), none, 0⟩], [79, 80, 81, 82, 83, 84, 85, 86, 87, 88, 89, 90], 0, false, []⟩
def r4_25 : Reg := ⟨[⟨(some 4), (.mv (.c (.bool false))), none, 0⟩], [], 0, false, []⟩
def r4_26 : Reg := ⟨[⟨(some 77), (.mv (.t 10)), none, 0⟩, ⟨(some 78), (.bin .add (.int .i64) (.t 77) (.c (.int .i64 1))), none, 0⟩, ⟨(some 10), (.mv (.t 78)), none, 0⟩], [77, 78], 0, false, []⟩
def l4_27 : SC := (.seq (.seq (.seq (.reg r4_23) (.cond (.t 76) .skip (.seq (.kill [0, 1, 4, 5, 6, 7, 8, 9, 10, 29, 34, 40, 54, 60, 65, 72, 76, 91]) (.exit 2)))) (.seq (.block 3 (.seq (.reg r4_24) (.cond (.t 91) (.seq (.reg r4_25) (.seq (.kill [0, 1, 5, 6, 7, 8, 9, 10, 29, 34, 40, 54, 60, 65, 72, 76, 91]) .ret)) .skip))) (.reg r4_26))) (.kill [0, 1, 4, 6, 7, 9, 29, 34, 40, 54, 60, 65, 72, 76, 91]))
def r4_28 : Reg := ⟨[⟨(some 92), (.callP 9 []), none, 0⟩, ⟨(some 4), (.mv (.t 92)), none, 0⟩], [92], 0, false, []⟩
def sf4 : SFn := { np := 2, vars := [0, 1, 4, 5, 6, 7, 8, 9, 10, 29, 34, 40, 54, 60, 65, 72, 76, 91], body := (.seq (.reg r4_0) (.seq (.reg r4_1) (.seq (.reg r4_2) (.seq (.seq (.reg r4_3) (.cond (.t 29) (.seq (.reg r4_4) (.seq (.kill [0, 1, 5, 6, 7, 8, 9, 10, 29, 34, 40, 54, 60, 65, 72, 76, 91]) .ret)) .skip)) (.seq (.seq (.reg r4_5) (.block 0 (.seq (.kill [4, 7, 8, 9, 10, 29, 34, 40, 54, 60, 65, 72, 76, 91]) (.loop l4_13)))) (.seq (.reg r4_14) (.seq (.reg r4_15) (.seq (.seq (.reg r4_16) (.cond (.t 60) (.reg r4_17) .skip)) (.seq (.seq (.reg r4_18) (.cond (.t 65) (.reg r4_19) .skip)) (.seq (.seq (.reg r4_20) (.cond (.t 72) (.seq (.reg r4_21) (.seq (.kill [0, 1, 5, 6, 7, 8, 9, 10, 29, 34, 40, 54, 60, 65, 72, 76, 91]) .ret)) .skip)) (.seq (.seq (.reg r4_22) (.block 2 (.seq (.kill [0, 1, 4, 6, 7, 9, 29, 34, 40, 54, 60, 65, 72, 76, 91]) (.loop l4_27)))) (.seq (.reg r4_28) (.seq (.kill [0, 1, 5, 6, 7, 8, 9, 10, 29, 34, 40, 54, 60, 65, 72, 76, 91]) .ret))))))))))))), res := [(.tmp 4)] }
/-! calliope/calliopelaw08.LapSpectra -/
def r5_0 : Reg := ⟨[⟨(some 4), (.mv (.c (.bool false))), none, 0⟩], [], 0, false, []⟩
def r5_1 : Reg := ⟨[⟨(some 8), (.mv (.t 0)), none, 0⟩, ⟨(some 9), (.call 10 [(.t 8)]), none, 0⟩, ⟨(some 0), (.mv (.t 9)), none, 0⟩], [8, 9], 0, true, []⟩
def r5_2 : Reg := ⟨[⟨(some 10), (.mv (.t 1)), none, 0⟩, ⟨(some 11), (.call 13 [(.t 10)]), none, 0⟩, ⟨(some 1), (.mv (.t 11)), none, 0⟩], [10, 11], 0, true, []⟩
def r5_3 : Reg := ⟨[⟨(some 12), (.mv (.t 0)), none, 0⟩, ⟨(some 13), (.call 11 [(.t 12)]), none, 0⟩, ⟨(some 5), (.mv (.t 13)), none, 0⟩], [12, 13], 0, true, []⟩
def r5_4 : Reg := ⟨[⟨(some 6), (.mv (.c (.int .i64 0))), none, 0⟩], [], 0, false, []⟩
def r5_5 : Reg := ⟨[⟨(some 14), (.mv (.t 6)), none, 0⟩, ⟨(some 15), (.mv (.t 5)), none, 0⟩, ⟨(some 16), (.len .slice (.t 15)), none, 0⟩, ⟨(some 17), (.bin .lss (.int .i64) (.t 14) (.t 16)), none, 0⟩, ⟨(some 18), (.mv (.t 17)), none, 0⟩, ⟨(some 19), (.mv (.t 6)), (some (18, true)), 0⟩, ⟨(some 20), (.mv (.t 1)), (some (18, true)), 0⟩, ⟨(some 21), (.len .slice (.t 20)), (some (18, true)), 0⟩, ⟨(some 22), (.bin .lss (.int .i64) (.t 19) (.t 21)), (some (18, true)), 0⟩, ⟨(some 23), (.pick (.t 18) (.t 22) (.c (.bool false))), none, 0⟩], [14, 15, 16, 17, 18, 19, 20, 21, 22], 0, false, []⟩
def r5_6 : Reg := ⟨[⟨(some 26), (.mv (.t 5)), none, 0⟩, ⟨(some 27), (.mv (.t 6)), none, 0⟩, ⟨(some 28), (.mv (.t 5)), none, 0⟩, ⟨(some 29), (.mv (.t 6)), none, 0⟩, ⟨(some 30), (.idxS 16 (.t 28) (.t 29)), none, 0⟩, ⟨(some 31), (.load (some 16) (.t 30)), none, 0⟩, ⟨(some 32), (.mv (.t 1)), none, 0⟩, ⟨(some 33), (.mv (.t 6)), none, 0⟩, ⟨(some 34), (.idxS 4 (.t 32) (.t 33)), none, 0⟩, ⟨(some 35), (.load (some 4) (.t 34)), none, 0⟩, ⟨(some 36), (.callP 14 [(.t 31), (.t 35)]), none, 0⟩, ⟨(some 37), (.idxS 16 (.t 26) (.t 27)), none, 0⟩, ⟨none, (.store 16 (.t 37) (.t 36)), none, 0⟩], [26, 27, 28, 29, 30, 31, 32, 33, 34, 35, 36, 37], 0, false, []⟩
def r5_7 : Reg := ⟨[⟨(some 24), (.mv (.t 6)), none, 0⟩, ⟨(some 25), (.bin .add (.int .i64) (.t 24) (.c (.int .i64 1))), none, 0⟩, ⟨(some 6), (.mv (.t 25)), none, 0⟩], [24, 25], 0, false, []⟩
def l5_8 : SC := (.seq (.seq (.seq (.reg r5_5) (.cond (.t 23) .skip (.seq (.kill [4, 6, 7, 23, 43]) (.exit 0)))) (.seq (.block 1 (.reg r5_6)) (.reg r5_7))) (.kill [4, 7, 23, 43]))
def r5_9 : Reg := ⟨[⟨(some 38), (.mv (.t 5)), none, 0⟩, ⟨(some 39), (.call 15 [(.t 38)]), none, 0⟩, ⟨(some 5), (.mv (.t 39)), none, 0⟩], [38, 39], 0, true, []⟩
def r5_10 : Reg := ⟨[⟨(some 7), (.mv (.c (.int .i64 0))), none, 0⟩], [], 0, false, []⟩
def r5_11 : Reg := ⟨[⟨(some 40), (.mv (.t 7)), none, 0⟩, ⟨(some 41), (.mv (.t 5)), none, 0⟩, ⟨(some 42), (.len .slice (.t 41)), none, 0⟩, ⟨(some 43), (.bin .lss (.int .i64) (.t 40) (.t 42)), none, 0⟩], [40, 41, 42], 0, false, []⟩
def r5_12 : Reg := ⟨[⟨(some 46), (.mv (.t 5)), none, 0⟩, ⟨(some 47), (.mv (.t 7)), none, 0⟩, ⟨(some 48), (.callP 16 []), none, 0⟩, ⟨(some 49), (.mv (.t 5)), none, 0⟩, ⟨(some 50), (.mv (.t 7)), none, 0⟩, ⟨(some 51), (.idxS 16 (.t 49) (.t 50)), none, 0⟩, ⟨(some 52), (.load (some 16) (.t 51)), none, 0⟩, ⟨(some 53), (.callP 17 [(.t 48), (.t 52)]), none, 0⟩, ⟨(some 54), (.idxS 16 (.t 46) (.t 47)), none, 0⟩, ⟨none, (.store 16 (.t 54) (.t 53)), none, 0⟩], [46, 47, 48, 49, 50, 51, 52, 53, 54], 0, false, []⟩
def r5_13 : Reg := ⟨[⟨(some 44), (.mv (.t 7)), none, 0⟩, ⟨(some 45), (.bin .add (.int .i64) (.t 44) (.c (.int .i64 1))), none, 0⟩, ⟨(some 7), (.mv (.t 45)), none, 0⟩], [44, 45], 0, false, []⟩
def l5_14 : SC := (.seq (.seq (.seq (.reg r5_11) (.cond (.t 43) .skip (.seq (.kill [4, 6, 7, 23, 43]) (.exit 2)))) (.seq (.block 3 (.reg r5_12)) (.reg r5_13))) (.kill [4, 6, 23, 43]))
def r5_15 : Reg := ⟨[⟨(some 55), (.callP 19 []), none, 0⟩, ⟨(some 56), (.mv (.t 0)), none, 0⟩, ⟨(some 57), (.mv (.t 1)), none, 0⟩, ⟨(some 58), (.call 20 [(.t 55), (.t 56), (.t 57)]), none, 0⟩, ⟨(some 59), (.mv (.t 5)), none, 0⟩, ⟨(some 60), (.call 18 [(.t 58), (.t 59)]), none, 0⟩, ⟨(some 61), (.mv (.t 60)), none, 0⟩, ⟨(some 62), (.callP 9 []), (some (61, true)), 0⟩, ⟨(some 63), (.pick (.t 61) (.t 62) (.c (.bool false))), none, 0⟩, ⟨(some 4), (.mv (.t 63)), none, 0⟩], [55, 56, 57, 58, 59, 60, 61, 62, 63], 0, true, []⟩
def sf5 : SFn := { np := 2, vars := [0, 1, 4, 5, 6, 7, 23, 43], body := (.seq (.reg r5_0) (.seq (.reg r5_1) (.seq (.reg r5_2) (.seq (.reg r5_3) (.seq (.seq (.reg r5_4) (.block 0 (.seq (.kill [4, 7, 23, 43]) (.loop l5_8)))) (.seq (.reg r5_9) (.seq (.seq (.reg r5_10) (.block 2 (.seq (.kill [4, 6, 23, 43]) (.loop l5_14)))) (.seq (.reg r5_15) (.seq (.kill [0, 1, 5, 6, 7, 23, 43]) .ret))))))))), res := [(.tmp 4)] }
/-! calliope/calliopelaw08.LapOnes -/
def r6_0 : Reg := ⟨[⟨(some 6), (.mv (.c (.bool false))), none, 0⟩], [], 0, false, []⟩
def r6_1 : Reg := ⟨[⟨(some 17), (.mv (.t 0)), none, 0⟩, ⟨(some 18), (.call 21 [(.t 17)]), none, 0⟩, ⟨(some 0), (.mv (.t 18)), none, 0⟩], [17, 18], 0, true, []⟩
def r6_2 : Reg := ⟨[⟨(some 19), (.mv (.t 1)), none, 0⟩, ⟨(some 20), (.call 13 [(.t 19)]), none, 0⟩, ⟨(some 1), (.mv (.t 20)), none, 0⟩], [19, 20], 0, true, []⟩
def r6_3 : Reg := ⟨[⟨(some 21), (.callP 19 []), none, 0⟩, ⟨(some 7), (.alloc (.ints .i64 [0, 0, 0, 0, 0, 0, 0, 0, 0, 0, 0, 0, 0, 0, 0, 0, 0, 0, 0, 0, 0, 0, 0, 0, 0, 0, 0, 0, 0, 0, 0, 0])), none, 0⟩, ⟨none, (.store 32 (.t 7) (.t 21)), none, 1⟩], [21], 1, true, []⟩
def r6_4 : Reg := ⟨[⟨(some 22), (.load (some 32) (.t 7)), none, 0⟩, ⟨(some 23), (.mv (.t 0)), none, 0⟩, ⟨(some 24), (.mv (.t 1)), none, 0⟩, ⟨(some 25), (.mv (.t 0)), none, 0⟩, ⟨(some 26), (.len .slice (.t 25)), none, 0⟩, ⟨(some 27), (.bin .mul (.int .i64) (.c (.int .i64 16)) (.t 26)), none, 0⟩, ⟨(some 28), (.call 22 [(.t 22), (.t 23), (.t 24), (.t 27)]), none, 0⟩, ⟨(some 8), (.mv (.t 28)), none, 0⟩], [22, 23, 24, 25, 26, 27, 28], 0, true, []⟩
def r6_5 : Reg := ⟨[⟨(some 9), (.mv (.c .nilp)), none, 0⟩], [], 0, false, []⟩
def r6_6 : Reg := ⟨[⟨(some 29), (.load (some 32) (.t 7)), none, 0⟩, ⟨(some 30), (.mv (.t 9)), none, 0⟩, ⟨(some 31), (.mv (.t 9)), none, 0⟩, ⟨(some 32), (.build (.ints .i64 [0, 0, 0, 0]) []), none, 0⟩, ⟨(some 33), (.call 23 [(.t 29), (.t 30), (.t 31), (.t 32), (.c (.int .i64 3))]), none, 0⟩, ⟨(some 34), (.bin .neq (.int .i64) (.t 33) (.c (.int .i64 0))), none, 0⟩], [29, 30, 31, 32, 33], 0, true, []⟩
def r6_7 : Reg := ⟨[⟨(some 6), (.mv (.c (.bool false))), none, 0⟩], [], 0, false, []⟩
def r6_8 : Reg := ⟨[⟨(some 35), (.mv (.t 2)), none, 0⟩, ⟨(some 36), (.bin .lss (.int .i64) (.t 35) (.c (.int .i64 0))), none, 0⟩, ⟨(some 37), (.mv (.t 36)), none, 0⟩, ⟨(some 38), (.mv (.t 2)), (some (37, false)), 0⟩, ⟨(some 39), (.mv (.t 8)), (some (37, false)), 0⟩, ⟨(some 40), (.len .slice (.t 39)), (some (37, false)), 0⟩, ⟨(some 41), (.bin .geq (.int .i64) (.t 38) (.t 40)), (some (37, false)), 0⟩, ⟨(some 42), (.pick (.t 37) (.c (.bool true)) (.t 41)), none, 0⟩, ⟨(some 43), (.mv (.t 42)), none, 0⟩, ⟨(some 44), (.mv (.t 8)), (some (43, false)), 0⟩, ⟨(some 45), (.len .slice (.t 44)), (some (43, false)), 0⟩, ⟨(some 46), (.mv (.t 0)), (some (43, false)), 0⟩, ⟨(some 47), (.len .slice (.t 46)), (some (43, false)), 0⟩, ⟨(some 48), (.bin .mul (.int .i64) (.c (.int .i64 16)) (.t 47)), (some (43, false)), 0⟩, ⟨(some 49), (.bin .neq (.int .i64) (.t 45) (.t 48)), (some (43, false)), 0⟩, ⟨(some 50), (.pick (.t 43) (.c (.bool true)) (.t 49)), none, 0⟩], [35, 36, 37, 38, 39, 40, 41, 42, 43, 44, 45, 46, 47, 48, 49], 0, false, []⟩
def r6_9 : Reg := ⟨[⟨(some 51), (.mv (.t 8)), none, 0⟩, ⟨(some 52), (.len .slice (.t 51)), none, 0⟩, ⟨(some 53), (.mv (.t 0)), none, 0⟩, ⟨(some 54), (.len .slice (.t 53)), none, 0⟩, ⟨(some 55), (.bin .mul (.int .i64) (.c (.int .i64 16)) (.t 54)), none, 0⟩, ⟨(some 56), (.bin .eql (.int .i64) (.t 52) (.t 55)), none, 0⟩, ⟨(some 57), (.mv (.t 56)), none, 0⟩, ⟨(some 58), (.callP 9 []), (some (57, true)), 0⟩, ⟨(some 59), (.pick (.t 57) (.t 58) (.c (.bool false))), none, 0⟩, ⟨(some 6), (.mv (.t 59)), none, 0⟩], [51, 52, 53, 54, 55, 56, 57, 58, 59], 0, false, []⟩
def r6_10 : Reg := ⟨[⟨(some 61), (.mv (.t 2)), none, 0⟩, ⟨(some 62), (.mv (.t 0)), none, 0⟩, ⟨(some 63), (.len .slice (.t 62)), none, 0⟩, ⟨(some 64), (.callP 24 [(.t 61), (.t 63)]), none, 0⟩, ⟨(some 60), (.mv (.t 64)), none, 0⟩, ⟨(some 65), (.extract (.t 60) 0), none, 0⟩, ⟨(some 66), (.extract (.t 60) 1), none, 0⟩, ⟨(some 10), (.mv (.t 65)), none, 0⟩, ⟨(some 11), (.mv (.t 66)), none, 0⟩], [61, 62, 63, 64, 60, 65, 66], 0, false, []⟩
def r6_11 : Reg := ⟨[⟨(some 67), (.mv (.t 2)), none, 0⟩, ⟨(some 68), (.bin .quo (.int .i64) (.t 67) (.c (.int .i64 16))), none, 0⟩, ⟨(some 12), (.mv (.t 68)), none, 0⟩], [67, 68], 0, false, []⟩
def r6_12 : Reg := ⟨[⟨(some 13), (.alloc (.ints .i64 [0, 0, 0, 0])), none, 0⟩], [], 1, true, []⟩
def r6_13 : Reg := ⟨[⟨(some 69), (.mv (.t 12)), none, 0⟩, ⟨(some 70), (.mv (.t 1)), none, 0⟩, ⟨(some 71), (.len .slice (.t 70)), none, 0⟩, ⟨(some 72), (.bin .lss (.int .i64) (.t 69) (.t 71)), none, 0⟩], [69, 70, 71], 0, false, []⟩
def r6_14 : Reg := ⟨[⟨(some 73), (.mv (.t 1)), none, 0⟩, ⟨(some 74), (.mv (.t 12)), none, 0⟩, ⟨(some 75), (.idxS 4 (.t 73) (.t 74)), none, 0⟩, ⟨(some 76), (.load (some 4) (.t 75)), none, 0⟩, ⟨none, (.store 4 (.t 13) (.t 76)), none, 0⟩], [73, 74, 75, 76], 0, false, []⟩
def r6_15 : Reg := ⟨[⟨(some 77), (.fieldAddr 16 (.t 7)), none, 0⟩, ⟨(some 78), (.load (some 16) (.t 77)), none, 0⟩, ⟨(some 79), (.mv (.t 0)), none, 0⟩, ⟨(some 80), (.mv (.t 12)), none, 0⟩, ⟨(some 81), (.idxS 16 (.t 79) (.t 80)), none, 0⟩, ⟨(some 82), (.load (some 16) (.t 81)), none, 0⟩, ⟨(some 83), (.callP 25 [(.t 78), (.t 82)]), none, 0⟩, ⟨(some 14), (.alloc (.ints .i64 [0, 0, 0, 0, 0, 0, 0, 0, 0, 0, 0, 0, 0, 0, 0, 0])), none, 0⟩, ⟨none, (.store 16 (.t 14) (.t 83)), none, 1⟩], [77, 78, 79, 80, 81, 82, 83], 1, true, [(1, 7), (5, 7)]⟩
def r6_16 : Reg := ⟨[⟨(some 84), (.mv (.t 10)), none, 0⟩, ⟨(some 85), (.mv (.t 11)), none, 0⟩, ⟨(some 86), (.bin .eql (.int .i64) (.t 84) (.t 85)), none, 0⟩], [84, 85], 0, false, []⟩
def r6_17 : Reg := ⟨[⟨(some 87), (.load (some 32) (.t 7)), none, 0⟩, ⟨(some 88), (.mv (.t 9)), none, 0⟩, ⟨(some 89), (.load (some 4) (.t 13)), none, 0⟩, ⟨(some 90), (.mv (.t 2)), none, 0⟩, ⟨(some 91), (.bin .rem (.int .i64) (.t 90) (.c (.int .i64 16))), none, 0⟩, ⟨(some 92), (.call 23 [(.t 87), (.t 14), (.t 88), (.t 89), (.t 91)]), none, 0⟩, ⟨(some 93), (.mv (.t 8)), none, 0⟩, ⟨(some 94), (.mv (.t 2)), none, 0⟩, ⟨(some 95), (.idxS 1 (.t 93) (.t 94)), none, 0⟩, ⟨(some 96), (.load none (.t 95)), none, 0⟩, ⟨(some 97), (.bin .eql (.int .i64) (.t 92) (.t 96)), none, 0⟩, ⟨(some 98), (.mv (.t 97)), none, 0⟩, ⟨(some 99), (.callP 9 []), (some (98, true)), 0⟩, ⟨(some 100), (.pick (.t 98) (.t 99) (.c (.bool false))), none, 0⟩, ⟨(some 6), (.mv (.t 100)), none, 0⟩], [87, 88, 89, 90, 91, 92, 93, 94, 95, 96, 97, 98, 99, 100], 0, true, [(5, 9)]⟩
def r6_18 : Reg := ⟨[⟨(some 101), (.mv (.t 10)), none, 0⟩, ⟨(some 102), (.mv (.t 11)), none, 0⟩, ⟨(some 103), (.bin .add (.int .i64) (.t 101) (.t 102)), none, 0⟩, ⟨(some 104), (.mv (.t 12)), none, 0⟩, ⟨(some 105), (.bin .sub (.int .i64) (.t 103) (.t 104)), none, 0⟩, ⟨(some 15), (.mv (.t 105)), none, 0⟩], [101, 102, 103, 104, 105], 0, false, []⟩
def r6_19 : Reg := ⟨[⟨(some 106), (.mv (.t 15)), none, 0⟩, ⟨(some 107), (.bin .lss (.int .i64) (.t 106) (.c (.int .i64 0))), none, 0⟩, ⟨(some 108), (.mv (.t 107)), none, 0⟩, ⟨(some 109), (.mv (.t 15)), (some (108, false)), 0⟩, ⟨(some 110), (.mv (.t 0)), (some (108, false)), 0⟩, ⟨(some 111), (.len .slice (.t 110)), (some (108, false)), 0⟩, ⟨(some 112), (.bin .geq (.int .i64) (.t 109) (.t 111)), (some (108, false)), 0⟩, ⟨(some 113), (.pick (.t 108) (.c (.bool true)) (.t 112)), none, 0⟩], [106, 107, 108, 109, 110, 111, 112], 0, false, []⟩
def r6_20 : Reg := ⟨[⟨(some 6), (.mv (.c (.bool false))), none, 0⟩], [], 0, false, []⟩
def r6_21 : Reg := ⟨[⟨(some 114), (.fieldAddr 16 (.t 7)), none, 0⟩, ⟨(some 115), (.load (some 16) (.t 114)), none, 0⟩, ⟨(some 116), (.mv (.t 0)), none, 0⟩, ⟨(some 117), (.mv (.t 15)), none, 0⟩, ⟨(some 118), (.idxS 16 (.t 116) (.t 117)), none, 0⟩, ⟨(some 119), (.load (some 16) (.t 118)), none, 0⟩, ⟨(some 120), (.callP 25 [(.t 115), (.t 119)]), none, 0⟩, ⟨(some 16), (.alloc (.ints .i64 [0, 0, 0, 0, 0, 0, 0, 0, 0, 0, 0, 0, 0, 0, 0, 0])), none, 0⟩, ⟨none, (.store 16 (.t 16) (.t 120)), none, 1⟩], [114, 115, 116, 117, 118, 119, 120], 1, true, [(1, 7), (5, 7)]⟩
def r6_22 : Reg := ⟨[⟨(some 121), (.load (some 32) (.t 7)), none, 0⟩, ⟨(some 122), (.load (some 4) (.t 13)), none, 0⟩, ⟨(some 123), (.mv (.t 2)), none, 0⟩, ⟨(some 124), (.bin .rem (.int .i64) (.t 123) (.c (.int .i64 16))), none, 0⟩, ⟨(some 125), (.call 23 [(.t 121), (.t 14), (.t 16), (.t 122), (.t 124)]), none, 0⟩, ⟨(some 126), (.mv (.t 8)), none, 0⟩, ⟨(some 127), (.mv (.t 2)), none, 0⟩, ⟨(some 128), (.idxS 1 (.t 126) (.t 127)), none, 0⟩, ⟨(some 129), (.load none (.t 128)), none, 0⟩, ⟨(some 130), (.bin .eql (.int .i64) (.t 125) (.t 129)), none, 0⟩, ⟨(some 131), (.mv (.t 130)), none, 0⟩, ⟨(some 132), (.load (some 32) (.t 7)), (some (131, true)), 0⟩, ⟨(some 133), (.load (some 4) (.t 13)), (some (131, true)), 0⟩, ⟨(some 134), (.call 23 [(.t 132), (.t 14), (.t 16), (.t 133), (.c (.int .i64 16))]), (some (131, true)), 0⟩, ⟨(some 135), (.bin .eql (.int .i64) (.t 134) (.c (.int .i64 0))), (some (131, true)), 0⟩, ⟨(some 136), (.pick (.t 131) (.t 135) (.c (.bool false))), none, 0⟩, ⟨(some 137), (.mv (.t 136)), none, 0⟩, ⟨(some 138), (.callP 9 []), (some (137, true)), 0⟩, ⟨(some 139), (.pick (.t 137) (.t 138) (.c (.bool false))), none, 0⟩, ⟨(some 6), (.mv (.t 139)), none, 0⟩], [121, 122, 123, 124, 125, 126, 127, 128, 129, 130, 131, 132, 133, 134, 135, 136, 137, 138, 139], 0, true, [(4, 8)]⟩
def sf6 : SFn := { np := 3, vars := [0, 1, 2, 6, 7, 8, 9, 10, 11, 12, 13, 14, 15, 16, 34, 50, 72, 86, 113], body := (.seq (.reg r6_0) (.seq (.reg r6_1) (.seq (.reg r6_2) (.seq (.reg r6_3) (.seq (.reg r6_4) (.seq (.reg r6_5) (.seq (.seq (.reg r6_6) (.cond (.t 34) (.seq (.reg r6_7) (.seq (.kill [0, 1, 2, 7, 8, 9, 10, 11, 12, 13, 14, 15, 16, 34, 50, 72, 86, 113]) .ret)) .skip)) (.seq (.seq (.reg r6_8) (.cond (.t 50) (.seq (.reg r6_9) (.seq (.kill [0, 1, 2, 7, 8, 9, 10, 11, 12, 13, 14, 15, 16, 34, 50, 72, 86, 113]) .ret)) .skip)) (.seq (.reg r6_10) (.seq (.reg r6_11) (.seq (.reg r6_12) (.seq (.seq (.reg r6_13) (.cond (.t 72) (.reg r6_14) .skip)) (.seq (.reg r6_15) (.seq (.seq (.reg r6_16) (.cond (.t 86) (.seq (.reg r6_17) (.seq (.kill [0, 1, 2, 7, 8, 9, 10, 11, 12, 13, 14, 15, 16, 34, 50, 72, 86, 113]) .ret)) .skip)) (.seq (.reg r6_18) (.seq (.seq (.reg r6_19) (.cond (.t 113) (.seq (.reg r6_20) (.seq (.kill [0, 1, 2, 7, 8, 9, 10, 11, 12, 13, 14, 15, 16, 34, 50, 72, 86, 113]) .ret)) .skip)) (.seq (.reg r6_21) (.seq (.reg r6_22) (.seq (.kill [0, 1, 2, 7, 8, 9, 10, 11, 12, 13, 14, 15, 16, 34, 50, 72, 86, 113]) .ret))))))))))))))))))), res := [(.tmp 6)] }
/-! calliope/calliopelaw08.LapBack -/
def r7_0 : Reg := ⟨[⟨(some 4), (.mv (.c (.bool false))), none, 0⟩], [], 0, false, []⟩
def r7_1 : Reg := ⟨[⟨(some 6), (.mv (.t 0)), none, 0⟩, ⟨(some 7), (.call 10 [(.t 6)]), none, 0⟩, ⟨(some 0), (.mv (.t 7)), none, 0⟩], [6, 7], 0, true, []⟩
def r7_2 : Reg := ⟨[⟨(some 8), (.mv (.t 1)), none, 0⟩, ⟨(some 9), (.call 13 [(.t 8)]), none, 0⟩, ⟨(some 1), (.mv (.t 9)), none, 0⟩], [8, 9], 0, true, []⟩
def r7_3 : Reg := ⟨[⟨(some 10), (.callP 19 []), none, 0⟩, ⟨(some 5), (.alloc (.ints .i64 [0, 0, 0, 0, 0, 0, 0, 0, 0, 0, 0, 0, 0, 0, 0, 0, 0, 0, 0, 0, 0, 0, 0, 0, 0, 0, 0, 0, 0, 0, 0, 0])), none, 0⟩, ⟨none, (.store 32 (.t 5) (.t 10)), none, 1⟩], [10], 1, true, []⟩
def r7_4 : Reg := ⟨[⟨(some 11), (.load (some 32) (.t 5)), none, 0⟩, ⟨(some 12), (.load (some 32) (.t 5)), none, 0⟩, ⟨(some 13), (.mv (.t 0)), none, 0⟩, ⟨(some 14), (.mv (.t 1)), none, 0⟩, ⟨(some 15), (.call 20 [(.t 12), (.t 13), (.t 14)]), none, 0⟩, ⟨(some 16), (.mv (.t 1)), none, 0⟩, ⟨(some 17), (.mv (.t 0)), none, 0⟩, ⟨(some 18), (.len .slice (.t 17)), none, 0⟩, ⟨(some 19), (.call 22 [(.t 11), (.t 15), (.t 16), (.t 18)]), none, 0⟩, ⟨(some 20), (.mv (.t 0)), none, 0⟩, ⟨(some 21), (.call 26 [(.t 19), (.t 20)]), none, 0⟩, ⟨(some 22), (.mv (.t 21)), none, 0⟩, ⟨(some 23), (.callP 9 []), (some (22, true)), 0⟩, ⟨(some 24), (.pick (.t 22) (.t 23) (.c (.bool false))), none, 0⟩, ⟨(some 4), (.mv (.t 24)), none, 0⟩], [11, 12, 13, 14, 15, 16, 17, 18, 19, 20, 21, 22, 23, 24], 0, true, [(0, 4)]⟩
def sf7 : SFn := { np := 2, vars := [0, 1, 4, 5], body := (.seq (.reg r7_0) (.seq (.reg r7_1) (.seq (.reg r7_2) (.seq (.reg r7_3) (.seq (.reg r7_4) (.seq (.kill [0, 1, 5]) .ret)))))), res := [(.tmp 4)] }
/-! calliope/lap.Count -/
def r8_0 : Reg := ⟨[⟨(some 2), (.mv (.c (.int .i64 0))), none, 0⟩], [], 0, false, []⟩
def r8_1 : Reg := ⟨[⟨(some 3), (.mv (.t 0)), none, 0⟩, ⟨(some 4), (.bin .lss (.int .i64) (.t 3) (.c (.int .i64 1))), none, 0⟩], [3], 0, false, []⟩
def r8_2 : Reg := ⟨[⟨(some 2), (.mv (.c (.int .i64 0))), none, 0⟩], [], 0, false, []⟩
def r8_3 : Reg := ⟨[⟨(some 5), (.mv (.t 0)), none, 0⟩, ⟨(some 6), (.bin .sub (.int .i64) (.t 5) (.c (.int .i64 1))), none, 0⟩, ⟨(some 7), (.bin .quo (.int .i64) (.t 6) (.c (.int .i64 16))), none, 0⟩, ⟨(some 8), (.bin .add (.int .i64) (.t 7) (.c (.int .i64 1))), none, 0⟩, ⟨(some 2), (.mv (.t 8)), none, 0⟩], [5, 6, 7, 8], 0, false, []⟩
def sf8 : SFn := { np := 1, vars := [0, 2, 4], body := (.seq (.reg r8_0) (.seq (.seq (.reg r8_1) (.cond (.t 4) (.seq (.reg r8_2) (.seq (.kill [0, 4]) .ret)) .skip)) (.seq (.reg r8_3) (.seq (.kill [0, 4]) .ret)))), res := [(.tmp 2)] }
/-! calliope/calliopelaw08.awake -/
def r9_0 : Reg := ⟨[⟨(some 0), (.mv (.c (.bool false))), none, 0⟩], [], 0, false, []⟩
def r9_1 : Reg := ⟨[⟨(some 6), (.callP 24 [(.c (.int .i64 20)), (.c (.int .i64 5))]), none, 0⟩, ⟨(some 5), (.mv (.t 6)), none, 0⟩, ⟨(some 7), (.extract (.t 5) 0), none, 0⟩, ⟨(some 8), (.extract (.t 5) 1), none, 0⟩, ⟨(some 1), (.mv (.t 7)), none, 0⟩, ⟨(some 2), (.mv (.t 8)), none, 0⟩], [6, 5, 7, 8], 0, false, []⟩
def r9_2 : Reg := ⟨[⟨(some 10), (.callP 24 [(.c (.int .i64 28)), (.c (.int .i64 5))]), none, 0⟩, ⟨(some 9), (.mv (.t 10)), none, 0⟩, ⟨(some 11), (.extract (.t 9) 0), none, 0⟩, ⟨(some 12), (.extract (.t 9) 1), none, 0⟩, ⟨(some 3), (.mv (.t 11)), none, 0⟩, ⟨(some 4), (.mv (.t 12)), none, 0⟩], [10, 9, 11, 12], 0, false, []⟩
def r9_3 : Reg := ⟨[⟨(some 13), (.mv (.t 1)), none, 0⟩, ⟨(some 14), (.bin .eql (.int .i64) (.t 13) (.c (.int .i64 0))), none, 0⟩, ⟨(some 15), (.mv (.t 14)), none, 0⟩, ⟨(some 16), (.mv (.t 2)), (some (15, true)), 0⟩, ⟨(some 17), (.bin .eql (.int .i64) (.t 16) (.c (.int .i64 1))), (some (15, true)), 0⟩, ⟨(some 18), (.pick (.t 15) (.t 17) (.c (.bool false))), none, 0⟩, ⟨(some 19), (.mv (.t 18)), none, 0⟩, ⟨(some 20), (.mv (.t 3)), (some (19, true)), 0⟩, ⟨(some 21), (.bin .eql (.int .i64) (.t 20) (.c (.int .i64 1))), (some (19, true)), 0⟩, ⟨(some 22), (.pick (.t 19) (.t 21) (.c (.bool false))), none, 0⟩, ⟨(some 23), (.mv (.t 22)), none, 0⟩, ⟨(some 24), (.mv (.t 4)), (some (23, true)), 0⟩, ⟨(some 25), (.bin .eql (.int .i64) (.t 24) (.c (.int .i64 2))), (some (23, true)), 0⟩, ⟨(some 26), (.pick (.t 23) (.t 25) (.c (.bool false))), none, 0⟩, ⟨(some 0), (.mv (.t 26)), none, 0⟩], [13, 14, 15, 16, 17, 18, 19, 20, 21, 22, 23, 24, 25, 26], 0, false, []⟩
def sf9 : SFn := { np := 0, vars := [0, 1, 2, 3, 4], body := (.seq (.reg r9_0) (.seq (.reg r9_1) (.seq (.reg r9_2) (.seq (.reg r9_3) (.seq (.kill [1, 2, 3, 4]) .ret))))), res := [(.tmp 0)] }
/-! calliope/calliopelaw08.few -/
def r10_0 : Reg := ⟨[⟨(some 2), (.mv (.c .nils)), none, 0⟩], [], 0, false, []⟩
def r10_1 : Reg := ⟨[⟨(some 3), (.mv (.c .nils)), none, 0⟩], [], 0, false, []⟩
def r10_2 : Reg := ⟨[⟨(some 4), (.mv (.c (.int .i64 0))), none, 0⟩], [], 0, false, []⟩
def r10_3 : Reg := ⟨[⟨(some 6), (.mv (.t 4)), none, 0⟩, ⟨(some 7), (.mv (.t 0)), none, 0⟩, ⟨(some 8), (.len .slice (.t 7)), none, 0⟩, ⟨(some 9), (.bin .lss (.int .i64) (.t 6) (.t 8)), none, 0⟩, ⟨(some 10), (.mv (.t 9)), none, 0⟩, ⟨(some 11), (.mv (.t 4)), (some (10, true)), 0⟩, ⟨(some 12), (.bin .lss (.int .i64) (.t 11) (.c (.int .i64 200))), (some (10, true)), 0⟩, ⟨(some 13), (.pick (.t 10) (.t 12) (.c (.bool false))), none, 0⟩], [6, 7, 8, 9, 10, 11, 12], 0, false, []⟩
def r10_4 : Reg := ⟨[⟨(some 16), (.mv (.t 0)), none, 0⟩, ⟨(some 17), (.mv (.t 4)), none, 0⟩, ⟨(some 18), (.idxS 1 (.t 16) (.t 17)), none, 0⟩, ⟨(some 19), (.load none (.t 18)), none, 0⟩, ⟨(some 5), (.mv (.t 19)), none, 0⟩], [16, 17, 18, 19], 0, false, []⟩
def r10_5 : Reg := ⟨[⟨(some 20), (.mv (.t 5)), none, 0⟩, ⟨(some 21), (.bin .gtr (.int .i64) (.t 20) (.c (.int .i64 1048576))), none, 0⟩, ⟨(some 22), (.mv (.t 21)), none, 0⟩, ⟨(some 23), (.mv (.t 5)), (some (22, false)), 0⟩, ⟨(some 24), (.bin .lss (.int .i64) (.t 23) (.c (.int .i64 (-1048576)))), (some (22, false)), 0⟩, ⟨(some 25), (.pick (.t 22) (.c (.bool true)) (.t 24)), none, 0⟩], [20, 21, 22, 23, 24], 0, false, []⟩
def r10_6 : Reg := ⟨[⟨(some 26), (.mv (.t 5)), none, 0⟩, ⟨(some 27), (.bin .rem (.int .i64) (.t 26) (.c (.int .i64 1048576))), none, 0⟩, ⟨(some 5), (.mv (.t 27)), none, 0⟩], [26, 27], 0, false, []⟩
def r10_7 : Reg := ⟨[⟨(some 28), (.mv (.t 3)), none, 0⟩, ⟨(some 29), (.mv (.t 5)), none, 0⟩, ⟨(some 30), (.bslice 1 1 (.int .i64 0) [(0, 1, (.t 29))]), none, 0⟩, ⟨(some 31), (.app 1 8 (.t 28) (.t 30)), none, 1⟩, ⟨(some 3), (.mv (.t 31)), none, 2⟩], [28, 29, 30, 31], 2, true, []⟩
def r10_8 : Reg := ⟨[⟨(some 14), (.mv (.t 4)), none, 0⟩, ⟨(some 15), (.bin .add (.int .i64) (.t 14) (.c (.int .i64 1))), none, 0⟩, ⟨(some 4), (.mv (.t 15)), none, 0⟩], [14, 15], 0, false, []⟩
def l10_9 : SC := (.seq (.seq (.seq (.reg r10_3) (.cond (.t 13) .skip (.seq (.kill [0, 2, 4, 5, 13, 25]) (.exit 0)))) (.seq (.block 1 (.seq (.reg r10_4) (.seq (.seq (.reg r10_5) (.cond (.t 25) (.reg r10_6) .skip)) (.reg r10_7)))) (.reg r10_8))) (.kill [2, 5, 13, 25]))
def r10_10 : Reg := ⟨[⟨(some 32), (.mv (.t 3)), none, 0⟩, ⟨(some 2), (.mv (.t 32)), none, 0⟩], [32], 0, false, []⟩
def sf10 : SFn := { np := 1, vars := [0, 2, 3, 4, 5, 13, 25], body := (.seq (.reg r10_0) (.seq (.reg r10_1) (.seq (.seq (.reg r10_2) (.block 0 (.seq (.kill [2, 5, 13, 25]) (.loop l10_9)))) (.seq (.reg r10_10) (.seq (.kill [0, 3, 4, 5, 13, 25]) .ret))))), res := [(.tmp 2)] }
/-! calliope/lap.Blocks -/
def r11_0 : Reg := ⟨[⟨(some 2), (.mv (.c .nils)), none, 0⟩], [], 0, false, []⟩
def r11_1 : Reg := ⟨[⟨(some 6), (.mv (.t 0)), none, 0⟩, ⟨(some 7), (.len .slice (.t 6)), none, 0⟩, ⟨(some 8), (.callP 8 [(.t 7)]), none, 0⟩, ⟨(some 9), (.mkslice 16 128 (.ints .i64 [0, 0, 0, 0, 0, 0, 0, 0, 0, 0, 0, 0, 0, 0, 0, 0]) (.t 8) (.t 8)), none, 0⟩, ⟨(some 3), (.mv (.t 9)), none, 1⟩], [6, 7, 8, 9], 1, true, []⟩
def r11_2 : Reg := ⟨[⟨(some 10), (.mv (.t 0)), none, 0⟩, ⟨(some 11), (.len .slice (.t 10)), none, 0⟩, ⟨(some 12), (.mv (.c (.int .i64 0))), none, 0⟩], [], 0, false, []⟩
def r11_3 : Reg := ⟨[⟨(some 13), (.bin .lss (.int .i64) (.t 12) (.t 11)), none, 0⟩], [], 0, false, []⟩
def r11_4 : Reg := ⟨[⟨(some 14), (.mv (.t 12)), none, 0⟩, ⟨(some 15), (.idxS 1 (.t 10) (.t 12)), none, 0⟩, ⟨(some 16), (.load none (.t 15)), none, 0⟩, ⟨(some 4), (.mv (.t 14)), none, 0⟩, ⟨(some 5), (.mv (.t 16)), none, 0⟩], [14, 15, 16], 0, false, []⟩
def r11_5 : Reg := ⟨[⟨(some 17), (.mv (.t 3)), none, 0⟩, ⟨(some 18), (.mv (.t 4)), none, 0⟩, ⟨(some 19), (.bin .quo (.int .i64) (.t 18) (.c (.int .i64 16))), none, 0⟩, ⟨(some 20), (.mv (.t 4)), none, 0⟩, ⟨(some 21), (.bin .rem (.int .i64) (.t 20) (.c (.int .i64 16))), none, 0⟩, ⟨(some 22), (.mv (.t 5)), none, 0⟩, ⟨(some 23), (.idxS 16 (.t 17) (.t 19)), none, 0⟩, ⟨(some 24), (.idxA 16 1 (.t 23) (.t 21)), none, 0⟩, ⟨none, (.store 1 (.t 24) (.t 22)), none, 0⟩], [17, 18, 19, 20, 21, 22, 23, 24], 0, false, []⟩
def r11_6 : Reg := ⟨[⟨(some 25), (.bin .add (.int .i64) (.t 12) (.c (.int .i64 1))), none, 0⟩, ⟨(some 12), (.mv (.t 25)), none, 0⟩], [25], 0, false, []⟩
def l11_7 : SC := (.seq (.seq (.reg r11_3) (.seq (.cond (.t 13) .skip (.seq (.kill [0, 2, 4, 5, 10, 11, 12, 13]) (.exit 0))) (.seq (.block 1 (.seq (.reg r11_4) (.reg r11_5))) (.reg r11_6)))) (.kill [0, 2, 4, 5, 13]))
def r11_8 : Reg := ⟨[⟨(some 26), (.mv (.t 3)), none, 0⟩, ⟨(some 2), (.mv (.t 26)), none, 0⟩], [26], 0, false, []⟩
def sf11 : SFn := { np := 1, vars := [0, 2, 3, 4, 5, 10, 11, 12, 13], body := (.seq (.reg r11_0) (.seq (.reg r11_1) (.seq (.seq (.reg r11_2) (.block 0 (.seq (.kill [0, 2, 4, 5, 13]) (.loop l11_7)))) (.seq (.reg r11_8) (.seq (.kill [0, 3, 4, 5, 10, 11, 12, 13]) .ret))))), res := [(.tmp 2)] }
/-! calliope/lap.Samples -/
def r12_0 : Reg := ⟨[⟨(some 4), (.mv (.c .nils)), none, 0⟩], [], 0, false, []⟩
def r12_1 : Reg := ⟨[⟨(some 5), (.mv (.c .nils)), none, 0⟩], [], 0, false, []⟩
def r12_2 : Reg := ⟨[⟨(some 8), (.mv (.t 0)), none, 0⟩, ⟨(some 9), (.len .slice (.t 8)), none, 0⟩, ⟨(some 10), (.mv (.c (.int .i64 0))), none, 0⟩], [], 0, false, []⟩
def r12_3 : Reg := ⟨[⟨(some 11), (.bin .lss (.int .i64) (.t 10) (.t 9)), none, 0⟩], [], 0, false, []⟩
def r12_4 : Reg := ⟨[⟨(some 12), (.idxS 16 (.t 8) (.t 10)), none, 0⟩, ⟨(some 13), (.load (some 16) (.t 12)), none, 0⟩, ⟨(some 7), (.alloc (.ints .i64 [0, 0, 0, 0, 0, 0, 0, 0, 0, 0, 0, 0, 0, 0, 0, 0])), none, 0⟩, ⟨none, (.store 16 (.t 7) (.t 13)), none, 1⟩], [12, 13], 1, true, []⟩
def r12_5 : Reg := ⟨[⟨(some 14), (.mv (.t 5)), none, 0⟩, ⟨(some 15), (.slA 16 1 (.t 7) none none), none, 0⟩, ⟨(some 16), (.app 1 8 (.t 14) (.t 15)), none, 0⟩, ⟨(some 5), (.mv (.t 16)), none, 1⟩], [14, 15, 16], 1, true, []⟩
def r12_6 : Reg := ⟨[⟨(some 17), (.bin .add (.int .i64) (.t 10) (.c (.int .i64 1))), none, 0⟩, ⟨(some 10), (.mv (.t 17)), none, 0⟩], [17], 0, false, []⟩
def l12_7 : SC := (.seq (.seq (.reg r12_3) (.seq (.cond (.t 11) .skip (.seq (.kill [0, 4, 7, 8, 9, 10, 11]) (.exit 0))) (.seq (.block 1 (.seq (.reg r12_4) (.reg r12_5))) (.reg r12_6)))) (.seq (.kill [0, 4, 7, 11]) .tidy))
def r12_8 : Reg := ⟨[⟨(some 18), (.mv (.t 5)), none, 0⟩, ⟨(some 19), (.mv (.t 1)), none, 0⟩, ⟨(some 20), (.mv (.t 5)), none, 0⟩, ⟨(some 21), (.len .slice (.t 20)), none, 0⟩, ⟨(some 22), (.mx false [(.t 19), (.t 21)]), none, 0⟩, ⟨(some 23), (.mx true [(.t 22), (.c (.int .i64 0))]), none, 0⟩, ⟨(some 24), (.slS 1 (.t 18) none (some (.t 23))), none, 0⟩, ⟨(some 4), (.mv (.t 24)), none, 0⟩], [18, 19, 20, 21, 22, 23, 24], 0, false, []⟩
def sf12 : SFn := { np := 2, vars := [0, 1, 4, 5, 7, 8, 9, 10, 11], body := (.seq (.reg r12_0) (.seq (.reg r12_1) (.seq (.seq (.reg r12_2) (.block 0 (.seq (.kill [0, 4, 7, 11]) (.loop l12_7)))) (.seq (.reg r12_8) (.seq (.kill [0, 1, 5, 7, 8, 9, 10, 11]) .ret))))), res := [(.tmp 4)] }
/-! calliope/calliopelaw08.fewGains -/
def r13_0 : Reg := ⟨[⟨(some 2), (.mv (.c .nils)), none, 0⟩], [], 0, false, []⟩
def r13_1 : Reg := ⟨[⟨(some 3), (.mv (.c .nils)), none, 0⟩], [], 0, false, []⟩
def r13_2 : Reg := ⟨[⟨(some 4), (.mv (.c (.int .i64 0))), none, 0⟩], [], 0, false, []⟩
def r13_3 : Reg := ⟨[⟨(some 7), (.mv (.t 4)), none, 0⟩, ⟨(some 8), (.mv (.t 0)), none, 0⟩, ⟨(some 9), (.len .slice (.t 8)), none, 0⟩, ⟨(some 10), (.bin .lss (.int .i64) (.t 7) (.t 9)), none, 0⟩, ⟨(some 11), (.mv (.t 10)), none, 0⟩, ⟨(some 12), (.mv (.t 4)), (some (11, true)), 0⟩, ⟨(some 13), (.bin .lss (.int .i64) (.t 12) (.c (.int .i64 20))), (some (11, true)), 0⟩, ⟨(some 14), (.pick (.t 11) (.t 13) (.c (.bool false))), none, 0⟩], [7, 8, 9, 10, 11, 12, 13], 0, false, []⟩
def r13_4 : Reg := ⟨[⟨(some 17), (.mv (.t 0)), none, 0⟩, ⟨(some 18), (.mv (.t 4)), none, 0⟩, ⟨(some 19), (.idxS 4 (.t 17) (.t 18)), none, 0⟩, ⟨(some 20), (.load (some 4) (.t 19)), none, 0⟩, ⟨(some 5), (.alloc (.ints .i64 [0, 0, 0, 0])), none, 0⟩, ⟨none, (.store 4 (.t 5) (.t 20)), none, 1⟩], [17, 18, 19, 20], 1, true, []⟩
def r13_5 : Reg := ⟨[⟨(some 6), (.mv (.c (.int .i64 0))), none, 0⟩], [], 0, false, []⟩
def r13_6 : Reg := ⟨[⟨(some 21), (.mv (.t 6)), none, 0⟩, ⟨(some 22), (.bin .lss (.int .i64) (.t 21) (.c (.int .i64 4))), none, 0⟩], [21], 0, false, []⟩
def r13_7 : Reg := ⟨[⟨(some 25), (.mv (.t 6)), none, 0⟩, ⟨(some 26), (.mv (.t 6)), none, 0⟩, ⟨(some 27), (.idxA 4 1 (.t 5) (.t 26)), none, 0⟩, ⟨(some 28), (.load none (.t 27)), none, 0⟩, ⟨(some 29), (.bin .and (.int .i64) (.t 28) (.c (.int .i64 3))), none, 0⟩, ⟨(some 30), (.idxA 4 1 (.t 5) (.t 25)), none, 0⟩, ⟨none, (.store 1 (.t 30) (.t 29)), none, 0⟩], [25, 26, 27, 28, 29, 30], 0, false, []⟩
def r13_8 : Reg := ⟨[⟨(some 23), (.mv (.t 6)), none, 0⟩, ⟨(some 24), (.bin .add (.int .i64) (.t 23) (.c (.int .i64 1))), none, 0⟩, ⟨(some 6), (.mv (.t 24)), none, 0⟩], [23, 24], 0, false, []⟩
def l13_9 : SC := (.seq (.seq (.seq (.reg r13_6) (.cond (.t 22) .skip (.seq (.kill [2, 6, 14, 22]) (.exit 2)))) (.seq (.block 3 (.reg r13_7)) (.reg r13_8))) (.kill [2, 14, 22]))
def r13_10 : Reg := ⟨[⟨(some 31), (.mv (.t 3)), none, 0⟩, ⟨(some 32), (.load (some 4) (.t 5)), none, 0⟩, ⟨(some 33), (.bslice 4 1 (.ints .i64 [0, 0, 0, 0]) [(0, 4, (.t 32))]), none, 0⟩, ⟨(some 34), (.app 4 32 (.t 31) (.t 33)), none, 1⟩, ⟨(some 3), (.mv (.t 34)), none, 2⟩], [31, 32, 33, 34], 2, true, []⟩
def r13_11 : Reg := ⟨[⟨(some 15), (.mv (.t 4)), none, 0⟩, ⟨(some 16), (.bin .add (.int .i64) (.t 15) (.c (.int .i64 1))), none, 0⟩, ⟨(some 4), (.mv (.t 16)), none, 0⟩], [15, 16], 0, false, []⟩
def l13_12 : SC := (.seq (.seq (.seq (.reg r13_3) (.cond (.t 14) .skip (.seq (.kill [0, 2, 4, 5, 6, 14, 22]) (.exit 0)))) (.seq (.block 1 (.seq (.reg r13_4) (.seq (.seq (.reg r13_5) (.block 2 (.seq (.kill [2, 14, 22]) (.loop l13_9)))) (.reg r13_10)))) (.reg r13_11))) (.seq (.kill [2, 5, 6, 14, 22]) .tidy))
def r13_13 : Reg := ⟨[⟨(some 35), (.mv (.t 3)), none, 0⟩, ⟨(some 2), (.mv (.t 35)), none, 0⟩], [35], 0, false, []⟩
def sf13 : SFn := { np := 1, vars := [0, 2, 3, 4, 5, 6, 14, 22], body := (.seq (.reg r13_0) (.seq (.reg r13_1) (.seq (.seq (.reg r13_2) (.block 0 (.seq (.kill [2, 5, 6, 14, 22]) (.loop l13_12)))) (.seq (.reg r13_13) (.seq (.kill [0, 3, 4, 5, 6, 14, 22]) .ret))))), res := [(.tmp 2)] }
/-! calliope/gain.Up -/
def r14_0 : Reg := ⟨[⟨(some 2), (.box (.t 0)), none, 0⟩, ⟨(some 3), (.box (.t 1)), none, 1⟩, ⟨(some 4), (.alloc (.ints .i64 [0, 0, 0, 0, 0, 0, 0, 0, 0, 0, 0, 0, 0, 0, 0, 0])), none, 2⟩], [], 3, true, []⟩
def r14_1 : Reg := ⟨[⟨(some 6), (.mv (.c (.int .i64 0))), none, 0⟩], [], 0, false, []⟩
def r14_2 : Reg := ⟨[⟨(some 7), (.bin .lss (.int .i64) (.t 6) (.c (.int .i64 16))), none, 0⟩], [], 0, false, []⟩
def r14_3 : Reg := ⟨[⟨(some 8), (.mv (.t 6)), none, 0⟩, ⟨(some 5), (.mv (.t 8)), none, 0⟩], [8], 0, false, []⟩
def r14_4 : Reg := ⟨[⟨(some 9), (.mv (.t 5)), none, 0⟩, ⟨(some 10), (.idxA 16 1 (.t 2) (.t 9)), none, 0⟩, ⟨(some 11), (.load none (.t 10)), none, 0⟩, ⟨(some 12), (.load (some 4) (.t 3)), none, 0⟩, ⟨(some 13), (.mv (.t 5)), none, 0⟩, ⟨(some 14), (.callP 27 [(.t 12), (.t 13)]), none, 0⟩, ⟨(some 15), (.bin .shl (.int .i64) (.t 11) (.t 14)), none, 0⟩, ⟨(some 16), (.idxA 16 1 (.t 2) (.t 9)), none, 0⟩, ⟨none, (.store 1 (.t 16) (.t 15)), none, 0⟩], [9, 10, 11, 12, 13, 14, 15, 16], 0, false, []⟩
def r14_5 : Reg := ⟨[⟨(some 17), (.bin .add (.int .i64) (.t 6) (.c (.int .i64 1))), none, 0⟩, ⟨(some 6), (.mv (.t 17)), none, 0⟩], [17], 0, false, []⟩
def l14_6 : SC := (.seq (.seq (.reg r14_2) (.seq (.cond (.t 7) .skip (.seq (.kill [0, 1, 3, 5, 6, 7]) (.exit 0))) (.seq (.block 1 (.seq (.reg r14_3) (.reg r14_4))) (.reg r14_5)))) (.kill [0, 1, 5, 7]))
def r14_7 : Reg := ⟨[⟨(some 18), (.load (some 16) (.t 2)), none, 0⟩, ⟨none, (.store 16 (.t 4) (.t 18)), none, 0⟩], [18], 0, false, []⟩
def sf14 : SFn := { np := 2, vars := [0, 1, 2, 3, 4, 5, 6, 7], body := (.seq (.reg r14_0) (.seq (.seq (.reg r14_1) (.block 0 (.seq (.kill [0, 1, 5, 7]) (.loop l14_6)))) (.seq (.reg r14_7) (.seq (.kill [0, 1, 2, 3, 5, 6, 7]) .ret)))), res := [(.cell 4 (some 16))] }
/-! calliope/calliopelaw08.join -/
def r15_0 : Reg := ⟨[⟨(some 2), (.mv (.c .nils)), none, 0⟩], [], 0, false, []⟩
def r15_1 : Reg := ⟨[⟨(some 8), (.bslice 16 0 (.ints .i64 [0, 0, 0, 0, 0, 0, 0, 0, 0, 0, 0, 0, 0, 0, 0, 0]) []), none, 0⟩, ⟨(some 9), (.mv (.t 0)), none, 1⟩, ⟨(some 10), (.app 16 128 (.t 8) (.t 9)), none, 1⟩, ⟨(some 3), (.mv (.t 10)), none, 2⟩], [8, 9, 10], 2, true, []⟩
def r15_2 : Reg := ⟨[⟨(some 4), (.mv (.c (.int .i64 1))), none, 0⟩], [], 0, false, []⟩
def r15_3 : Reg := ⟨[⟨(some 11), (.mv (.t 4)), none, 0⟩, ⟨(some 12), (.mv (.t 3)), none, 0⟩, ⟨(some 13), (.len .slice (.t 12)), none, 0⟩, ⟨(some 14), (.bin .lss (.int .i64) (.t 11) (.t 13)), none, 0⟩], [11, 12, 13], 0, false, []⟩
def r15_4 : Reg := ⟨[⟨(some 5), (.mv (.c (.int .i64 0))), none, 0⟩], [], 0, false, []⟩
def r15_5 : Reg := ⟨[⟨(some 17), (.mv (.t 5)), none, 0⟩, ⟨(some 18), (.bin .lss (.int .i64) (.t 17) (.c (.int .i64 8))), none, 0⟩], [17], 0, false, []⟩
def r15_6 : Reg := ⟨[⟨(some 22), (.mv (.t 3)), none, 0⟩, ⟨(some 23), (.mv (.t 4)), none, 0⟩, ⟨(some 24), (.bin .sub (.int .i64) (.t 23) (.c (.int .i64 1))), none, 0⟩, ⟨(some 25), (.mv (.t 5)), none, 0⟩, ⟨(some 26), (.bin .sub (.int .i64) (.c (.int .i64 15)) (.t 25)), none, 0⟩, ⟨(some 27), (.idxS 16 (.t 22) (.t 24)), none, 0⟩, ⟨(some 28), (.idxA 16 1 (.t 27) (.t 26)), none, 0⟩, ⟨(some 29), (.load none (.t 28)), none, 0⟩, ⟨(some 30), (.mv (.t 3)), none, 0⟩, ⟨(some 31), (.mv (.t 4)), none, 0⟩, ⟨(some 32), (.mv (.t 5)), none, 0⟩, ⟨(some 33), (.idxS 16 (.t 30) (.t 31)), none, 0⟩, ⟨(some 34), (.idxA 16 1 (.t 33) (.t 32)), none, 0⟩, ⟨(some 35), (.load none (.t 34)), none, 0⟩, ⟨(some 36), (.mv (.t 5)), none, 0⟩, ⟨(some 37), (.callP 29 [(.t 36)]), none, 0⟩, ⟨(some 38), (.callP 28 [(.t 29), (.t 35), (.t 37)]), none, 0⟩, ⟨(some 21), (.mv (.t 38)), none, 0⟩, ⟨(some 39), (.extract (.t 21) 0), none, 0⟩, ⟨(some 40), (.extract (.t 21) 1), none, 0⟩, ⟨(some 6), (.mv (.t 39)), none, 0⟩, ⟨(some 7), (.mv (.t 40)), none, 0⟩], [22, 23, 24, 25, 26, 27, 28, 29, 30, 31, 32, 33, 34, 35, 36, 37, 38, 21, 39, 40], 0, false, []⟩
def r15_7 : Reg := ⟨[⟨(some 41), (.mv (.t 3)), none, 0⟩, ⟨(some 42), (.mv (.t 4)), none, 0⟩, ⟨(some 43), (.bin .sub (.int .i64) (.t 42) (.c (.int .i64 1))), none, 0⟩, ⟨(some 44), (.mv (.t 5)), none, 0⟩, ⟨(some 45), (.bin .sub (.int .i64) (.c (.int .i64 15)) (.t 44)), none, 0⟩, ⟨(some 46), (.mv (.t 6)), none, 0⟩, ⟨(some 47), (.idxS 16 (.t 41) (.t 43)), none, 0⟩, ⟨(some 48), (.idxA 16 1 (.t 47) (.t 45)), none, 0⟩, ⟨none, (.store 1 (.t 48) (.t 46)), none, 0⟩], [41, 42, 43, 44, 45, 46, 47, 48], 0, false, []⟩
def r15_8 : Reg := ⟨[⟨(some 49), (.mv (.t 3)), none, 0⟩, ⟨(some 50), (.mv (.t 4)), none, 0⟩, ⟨(some 51), (.mv (.t 5)), none, 0⟩, ⟨(some 52), (.mv (.t 7)), none, 0⟩, ⟨(some 53), (.idxS 16 (.t 49) (.t 50)), none, 0⟩, ⟨(some 54), (.idxA 16 1 (.t 53) (.t 51)), none, 0⟩, ⟨none, (.store 1 (.t 54) (.t 52)), none, 0⟩], [49, 50, 51, 52, 53, 54], 0, false, []⟩
def r15_9 : Reg := ⟨[⟨(some 19), (.mv (.t 5)), none, 0⟩, ⟨(some 20), (.bin .add (.int .i64) (.t 19) (.c (.int .i64 1))), none, 0⟩, ⟨(some 5), (.mv (.t 20)), none, 0⟩], [19, 20], 0, false, []⟩
def l15_10 : SC := (.seq (.seq (.seq (.reg r15_5) (.cond (.t 18) .skip (.seq (.kill [0, 2, 5, 6, 7, 14, 18]) (.exit 2)))) (.seq (.block 3 (.seq (.reg r15_6) (.seq (.reg r15_7) (.reg r15_8)))) (.reg r15_9))) (.kill [0, 2, 6, 7, 14, 18]))
def r15_11 : Reg := ⟨[⟨(some 15), (.mv (.t 4)), none, 0⟩, ⟨(some 16), (.bin .add (.int .i64) (.t 15) (.c (.int .i64 1))), none, 0⟩, ⟨(some 4), (.mv (.t 16)), none, 0⟩], [15, 16], 0, false, []⟩
def l15_12 : SC := (.seq (.seq (.seq (.reg r15_3) (.cond (.t 14) .skip (.seq (.kill [0, 2, 4, 5, 6, 7, 14, 18]) (.exit 0)))) (.seq (.block 1 (.seq (.reg r15_4) (.block 2 (.seq (.kill [0, 2, 6, 7, 14, 18]) (.loop l15_10))))) (.reg r15_11))) (.kill [0, 2, 5, 6, 7, 14, 18]))
def r15_13 : Reg := ⟨[⟨(some 55), (.mv (.t 3)), none, 0⟩, ⟨(some 2), (.mv (.t 55)), none, 0⟩], [55], 0, false, []⟩
def sf15 : SFn := { np := 1, vars := [0, 2, 3, 4, 5, 6, 7, 14, 18], body := (.seq (.reg r15_0) (.seq (.reg r15_1) (.seq (.seq (.reg r15_2) (.block 0 (.seq (.kill [0, 2, 5, 6, 7, 14, 18]) (.loop l15_12)))) (.seq (.reg r15_13) (.seq (.kill [0, 3, 4, 5, 6, 7, 14, 18]) .ret))))), res := [(.tmp 2)] }
/-! calliope/net.New -/
def r16_0 : Reg := ⟨[⟨(some 0), (.alloc (.ints .i64 [0, 0, 0, 0, 0, 0, 0, 0, 0, 0, 0, 0, 0, 0, 0, 0])), none, 0⟩], [], 1, true, []⟩
def r16_1 : Reg := ⟨[⟨(some 1), (.callP 30 []), none, 0⟩, ⟨(some 2), (.build (.ints .i64 [0, 0, 0, 0, 0, 0, 0, 0, 0, 0, 0, 0, 0, 0, 0, 0]) [(0, 16, (.t 1))]), none, 0⟩, ⟨none, (.store 16 (.t 0) (.t 2)), none, 0⟩], [1, 2], 0, false, []⟩
def sf16 : SFn := { np := 0, vars := [0], body := (.seq (.reg r16_0) (.seq (.reg r16_1) (.seq (.kill []) .ret))), res := [(.cell 0 (some 16))] }
/-! calliope/calliopelaw08.sameBlocks -/
def r18_0 : Reg := ⟨[⟨(some 4), (.mv (.c (.bool false))), none, 0⟩], [], 0, false, []⟩
def r18_1 : Reg := ⟨[⟨(some 6), (.mv (.t 0)), none, 0⟩, ⟨(some 7), (.len .slice (.t 6)), none, 0⟩, ⟨(some 8), (.mv (.t 1)), none, 0⟩, ⟨(some 9), (.len .slice (.t 8)), none, 0⟩, ⟨(some 10), (.bin .neq (.int .i64) (.t 7) (.t 9)), none, 0⟩], [6, 7, 8, 9], 0, false, []⟩
def r18_2 : Reg := ⟨[⟨(some 4), (.mv (.c (.bool false))), none, 0⟩], [], 0, false, []⟩
def r18_3 : Reg := ⟨[⟨(some 5), (.mv (.c (.int .i64 0))), none, 0⟩], [], 0, false, []⟩
def r18_4 : Reg := ⟨[⟨(some 11), (.mv (.t 5)), none, 0⟩, ⟨(some 12), (.mv (.t 0)), none, 0⟩, ⟨(some 13), (.len .slice (.t 12)), none, 0⟩, ⟨(some 14), (.bin .lss (.int .i64) (.t 11) (.t 13)), none, 0⟩], [11, 12, 13], 0, false, []⟩
def r18_5 : Reg := ⟨[⟨(some 17), (.mv (.t 0)), none, 0⟩, ⟨(some 18), (.mv (.t 5)), none, 0⟩, ⟨(some 19), (.idxS 16 (.t 17) (.t 18)), none, 0⟩, ⟨(some 20), (.load (some 16) (.t 19)), none, 0⟩, ⟨(some 21), (.mv (.t 1)), none, 0⟩, ⟨(some 22), (.mv (.t 5)), none, 0⟩, ⟨(some 23), (.idxS 16 (.t 21) (.t 22)), none, 0⟩, ⟨(some 24), (.load (some 16) (.t 23)), none, 0⟩, ⟨(some 25), (.bin .neq (.cells [(.int .i64), (.int .i64), (.int .i64), (.int .i64), (.int .i64), (.int .i64), (.int .i64), (.int .i64), (.int .i64), (.int .i64), (.int .i64), (.int .i64), (.int .i64), (.int .i64), (.int .i64), (.int .i64)]) (.t 20) (.t 24)), none, 0⟩], [17, 18, 19, 20, 21, 22, 23, 24], 0, false, []⟩
def r18_6 : Reg := ⟨[⟨(some 4), (.mv (.c (.bool false))), none, 0⟩], [], 0, false, []⟩
def r18_7 : Reg := ⟨[⟨(some 15), (.mv (.t 5)), none, 0⟩, ⟨(some 16), (.bin .add (.int .i64) (.t 15) (.c (.int .i64 1))), none, 0⟩, ⟨(some 5), (.mv (.t 16)), none, 0⟩], [15, 16], 0, false, []⟩
def l18_8 : SC := (.seq (.seq (.seq (.reg r18_4) (.cond (.t 14) .skip (.seq (.kill [0, 1, 4, 5, 10, 14, 25]) (.exit 0)))) (.seq (.block 1 (.seq (.reg r18_5) (.cond (.t 25) (.seq (.reg r18_6) (.seq (.kill [0, 1, 5, 10, 14, 25]) .ret)) .skip))) (.reg r18_7))) (.kill [4, 10, 14, 25]))
def r18_9 : Reg := ⟨[⟨(some 4), (.mv (.c (.bool true))), none, 0⟩], [], 0, false, []⟩
def sf18 : SFn := { np := 2, vars := [0, 1, 4, 5, 10, 14, 25], body := (.seq (.reg r18_0) (.seq (.seq (.reg r18_1) (.cond (.t 10) (.seq (.reg r18_2) (.seq (.kill [0, 1, 5, 10, 14, 25]) .ret)) .skip)) (.seq (.seq (.reg r18_3) (.block 0 (.seq (.kill [4, 10, 14, 25]) (.loop l18_8)))) (.seq (.reg r18_9) (.seq (.kill [0, 1, 5, 10, 14, 25]) .ret))))), res := [(.tmp 4)] }
/-! calliope/lap.New -/
def r19_0 : Reg := ⟨[⟨(some 0), (.alloc (.ints .i64 [0, 0, 0, 0, 0, 0, 0, 0, 0, 0, 0, 0, 0, 0, 0, 0, 0, 0, 0, 0, 0, 0, 0, 0, 0, 0, 0, 0, 0, 0, 0, 0])), none, 0⟩], [], 1, true, []⟩
def r19_1 : Reg := ⟨[⟨(some 1), (.callP 30 []), none, 0⟩, ⟨(some 2), (.callP 32 [(.t 1)]), none, 0⟩, ⟨(some 3), (.callP 16 []), none, 0⟩, ⟨(some 4), (.build (.ints .i64 [0, 0, 0, 0, 0, 0, 0, 0, 0, 0, 0, 0, 0, 0, 0, 0, 0, 0, 0, 0, 0, 0, 0, 0, 0, 0, 0, 0, 0, 0, 0, 0]) [(0, 16, (.t 2)), (16, 16, (.t 3))]), none, 0⟩, ⟨none, (.store 32 (.t 0) (.t 4)), none, 0⟩], [1, 2, 3, 4], 0, false, []⟩
def sf19 : SFn := { np := 0, vars := [0], body := (.seq (.reg r19_0) (.seq (.reg r19_1) (.seq (.kill []) .ret))), res := [(.cell 0 (some 32))] }
/-! (calliope/lap.Lap).Spectra -/
def r20_0 : Reg := ⟨[⟨(some 3), (.box (.t 0)), none, 0⟩, ⟨(some 6), (.mv (.c .nils)), none, 1⟩], [], 1, true, []⟩
def r20_1 : Reg := ⟨[⟨(some 10), (.mv (.t 1)), none, 0⟩, ⟨(some 11), (.call 11 [(.t 10)]), none, 0⟩, ⟨(some 7), (.mv (.t 11)), none, 0⟩], [10, 11], 0, true, []⟩
def r20_2 : Reg := ⟨[⟨(some 12), (.mv (.t 7)), none, 0⟩, ⟨(some 13), (.len .slice (.t 12)), none, 0⟩, ⟨(some 14), (.mv (.c (.int .i64 0))), none, 0⟩], [12], 0, false, []⟩
def r20_3 : Reg := ⟨[⟨(some 15), (.bin .lss (.int .i64) (.t 14) (.t 13)), none, 0⟩], [], 0, false, []⟩
def r20_4 : Reg := ⟨[⟨(some 16), (.mv (.t 14)), none, 0⟩, ⟨(some 8), (.mv (.t 16)), none, 0⟩], [16], 0, false, []⟩
def r20_5 : Reg := ⟨[⟨(some 17), (.mv (.t 8)), none, 0⟩, ⟨(some 18), (.mv (.t 2)), none, 0⟩, ⟨(some 19), (.len .slice (.t 18)), none, 0⟩, ⟨(some 20), (.bin .lss (.int .i64) (.t 17) (.t 19)), none, 0⟩], [17, 18, 19], 0, false, []⟩
def r20_6 : Reg := ⟨[⟨(some 21), (.mv (.t 7)), none, 0⟩, ⟨(some 22), (.mv (.t 8)), none, 0⟩, ⟨(some 23), (.mv (.t 7)), none, 0⟩, ⟨(some 24), (.mv (.t 8)), none, 0⟩, ⟨(some 25), (.idxS 16 (.t 23) (.t 24)), none, 0⟩, ⟨(some 26), (.load (some 16) (.t 25)), none, 0⟩, ⟨(some 27), (.mv (.t 2)), none, 0⟩, ⟨(some 28), (.mv (.t 8)), none, 0⟩, ⟨(some 29), (.idxS 4 (.t 27) (.t 28)), none, 0⟩, ⟨(some 30), (.load (some 4) (.t 29)), none, 0⟩, ⟨(some 31), (.callP 14 [(.t 26), (.t 30)]), none, 0⟩, ⟨(some 32), (.idxS 16 (.t 21) (.t 22)), none, 0⟩, ⟨none, (.store 16 (.t 32) (.t 31)), none, 0⟩], [21, 22, 23, 24, 25, 26, 27, 28, 29, 30, 31, 32], 0, false, []⟩
def r20_7 : Reg := ⟨[⟨(some 33), (.bin .add (.int .i64) (.t 14) (.c (.int .i64 1))), none, 0⟩, ⟨(some 14), (.mv (.t 33)), none, 0⟩], [33], 0, false, []⟩
def l20_8 : SC := (.seq (.seq (.reg r20_3) (.seq (.cond (.t 15) .skip (.seq (.kill [0, 1, 2, 6, 8, 9, 13, 14, 15, 20, 38, 39, 40]) (.exit 0))) (.seq (.block 1 (.seq (.reg r20_4) (.seq (.reg r20_5) (.cond (.t 20) (.reg r20_6) .skip)))) (.reg r20_7)))) (.kill [0, 1, 6, 8, 9, 15, 20, 38, 39, 40]))
def r20_9 : Reg := ⟨[⟨(some 34), (.load (some 32) (.t 3)), none, 0⟩, ⟨(some 35), (.mv (.t 7)), none, 0⟩, ⟨(some 36), (.call 33 [(.t 34), (.t 35)]), none, 0⟩, ⟨(some 7), (.mv (.t 36)), none, 0⟩], [34, 35, 36], 0, true, []⟩
def r20_10 : Reg := ⟨[⟨(some 37), (.mv (.t 7)), none, 0⟩, ⟨(some 38), (.len .slice (.t 37)), none, 0⟩, ⟨(some 39), (.mv (.c (.int .i64 0))), none, 0⟩], [37], 0, false, []⟩
def r20_11 : Reg := ⟨[⟨(some 40), (.bin .lss (.int .i64) (.t 39) (.t 38)), none, 0⟩], [], 0, false, []⟩
def r20_12 : Reg := ⟨[⟨(some 41), (.mv (.t 39)), none, 0⟩, ⟨(some 9), (.mv (.t 41)), none, 0⟩], [41], 0, false, []⟩
def r20_13 : Reg := ⟨[⟨(some 42), (.mv (.t 7)), none, 0⟩, ⟨(some 43), (.mv (.t 9)), none, 0⟩, ⟨(some 44), (.fieldAddr 16 (.t 3)), none, 0⟩, ⟨(some 45), (.load (some 16) (.t 44)), none, 0⟩, ⟨(some 46), (.mv (.t 7)), none, 0⟩, ⟨(some 47), (.mv (.t 9)), none, 0⟩, ⟨(some 48), (.idxS 16 (.t 46) (.t 47)), none, 0⟩, ⟨(some 49), (.load (some 16) (.t 48)), none, 0⟩, ⟨(some 50), (.callP 17 [(.t 45), (.t 49)]), none, 0⟩, ⟨(some 51), (.idxS 16 (.t 42) (.t 43)), none, 0⟩, ⟨none, (.store 16 (.t 51) (.t 50)), none, 0⟩], [42, 43, 44, 45, 46, 47, 48, 49, 50, 51], 0, false, []⟩
def r20_14 : Reg := ⟨[⟨(some 52), (.bin .add (.int .i64) (.t 39) (.c (.int .i64 1))), none, 0⟩, ⟨(some 39), (.mv (.t 52)), none, 0⟩], [52], 0, false, []⟩
def l20_15 : SC := (.seq (.seq (.reg r20_11) (.seq (.cond (.t 40) .skip (.seq (.kill [0, 1, 2, 3, 6, 8, 9, 13, 14, 15, 20, 38, 39, 40]) (.exit 2))) (.seq (.block 3 (.seq (.reg r20_12) (.reg r20_13))) (.reg r20_14)))) (.kill [0, 1, 2, 6, 8, 9, 13, 14, 15, 20, 40]))
def r20_16 : Reg := ⟨[⟨(some 53), (.mv (.t 7)), none, 0⟩, ⟨(some 6), (.mv (.t 53)), none, 0⟩], [53], 0, false, []⟩
def sf20 : SFn := { np := 3, vars := [0, 1, 2, 3, 6, 7, 8, 9, 13, 14, 15, 20, 38, 39, 40], body := (.seq (.reg r20_0) (.seq (.reg r20_1) (.seq (.seq (.reg r20_2) (.block 0 (.seq (.kill [0, 1, 6, 8, 9, 15, 20, 38, 39, 40]) (.loop l20_8)))) (.seq (.reg r20_9) (.seq (.seq (.reg r20_10) (.block 2 (.seq (.kill [0, 1, 2, 6, 8, 9, 13, 14, 15, 20, 40]) (.loop l20_15)))) (.seq (.reg r20_16) (.seq (.kill [0, 1, 2, 3, 7, 8, 9, 13, 14, 15, 20, 38, 39, 40]) .ret))))))), res := [(.tmp 6)] }
/-! calliope/calliopelaw08.some -/
def r21_0 : Reg := ⟨[⟨(some 2), (.mv (.c .nils)), none, 0⟩], [], 0, false, []⟩
def r21_1 : Reg := ⟨[⟨(some 3), (.mv (.c .nils)), none, 0⟩], [], 0, false, []⟩
def r21_2 : Reg := ⟨[⟨(some 4), (.mv (.c (.int .i64 0))), none, 0⟩], [], 0, false, []⟩
def r21_3 : Reg := ⟨[⟨(some 7), (.mv (.t 4)), none, 0⟩, ⟨(some 8), (.mv (.t 0)), none, 0⟩, ⟨(some 9), (.len .slice (.t 8)), none, 0⟩, ⟨(some 10), (.bin .lss (.int .i64) (.t 7) (.t 9)), none, 0⟩, ⟨(some 11), (.mv (.t 10)), none, 0⟩, ⟨(some 12), (.mv (.t 4)), (some (11, true)), 0⟩, ⟨(some 13), (.bin .lss (.int .i64) (.t 12) (.c (.int .i64 12))), (some (11, true)), 0⟩, ⟨(some 14), (.pick (.t 11) (.t 13) (.c (.bool false))), none, 0⟩], [7, 8, 9, 10, 11, 12, 13], 0, false, []⟩
def r21_4 : Reg := ⟨[⟨(some 17), (.mv (.t 0)), none, 0⟩, ⟨(some 18), (.mv (.t 4)), none, 0⟩, ⟨(some 19), (.idxS 16 (.t 17) (.t 18)), none, 0⟩, ⟨(some 20), (.load (some 16) (.t 19)), none, 0⟩, ⟨(some 5), (.alloc (.ints .i64 [0, 0, 0, 0, 0, 0, 0, 0, 0, 0, 0, 0, 0, 0, 0, 0])), none, 0⟩, ⟨none, (.store 16 (.t 5) (.t 20)), none, 1⟩], [17, 18, 19, 20], 1, true, []⟩
def r21_5 : Reg := ⟨[⟨(some 6), (.mv (.c (.int .i64 0))), none, 0⟩], [], 0, false, []⟩
def r21_6 : Reg := ⟨[⟨(some 21), (.mv (.t 6)), none, 0⟩, ⟨(some 22), (.bin .lss (.int .i64) (.t 21) (.c (.int .i64 16))), none, 0⟩], [21], 0, false, []⟩
def r21_7 : Reg := ⟨[⟨(some 25), (.mv (.t 6)), none, 0⟩, ⟨(some 26), (.idxA 16 1 (.t 5) (.t 25)), none, 0⟩, ⟨(some 27), (.load none (.t 26)), none, 0⟩, ⟨(some 28), (.bin .gtr (.int .i64) (.t 27) (.c (.int .i64 4294967296))), none, 0⟩, ⟨(some 29), (.mv (.t 28)), none, 0⟩, ⟨(some 30), (.mv (.t 6)), (some (29, false)), 0⟩, ⟨(some 31), (.idxA 16 1 (.t 5) (.t 30)), (some (29, false)), 0⟩, ⟨(some 32), (.load none (.t 31)), (some (29, false)), 0⟩, ⟨(some 33), (.bin .lss (.int .i64) (.t 32) (.c (.int .i64 (-4294967296)))), (some (29, false)), 0⟩, ⟨(some 34), (.pick (.t 29) (.c (.bool true)) (.t 33)), none, 0⟩], [25, 26, 27, 28, 29, 30, 31, 32, 33], 0, false, []⟩
def r21_8 : Reg := ⟨[⟨(some 35), (.mv (.t 6)), none, 0⟩, ⟨(some 36), (.mv (.t 6)), none, 0⟩, ⟨(some 37), (.idxA 16 1 (.t 5) (.t 36)), none, 0⟩, ⟨(some 38), (.load none (.t 37)), none, 0⟩, ⟨(some 39), (.bin .rem (.int .i64) (.t 38) (.c (.int .i64 4294967296))), none, 0⟩, ⟨(some 40), (.idxA 16 1 (.t 5) (.t 35)), none, 0⟩, ⟨none, (.store 1 (.t 40) (.t 39)), none, 0⟩], [35, 36, 37, 38, 39, 40], 0, false, []⟩
def r21_9 : Reg := ⟨[⟨(some 23), (.mv (.t 6)), none, 0⟩, ⟨(some 24), (.bin .add (.int .i64) (.t 23) (.c (.int .i64 1))), none, 0⟩, ⟨(some 6), (.mv (.t 24)), none, 0⟩], [23, 24], 0, false, []⟩
def l21_10 : SC := (.seq (.seq (.seq (.reg r21_6) (.cond (.t 22) .skip (.seq (.kill [2, 6, 14, 22, 34]) (.exit 2)))) (.seq (.block 3 (.seq (.reg r21_7) (.cond (.t 34) (.reg r21_8) .skip))) (.reg r21_9))) (.kill [2, 14, 22, 34]))
def r21_11 : Reg := ⟨[⟨(some 41), (.mv (.t 3)), none, 0⟩, ⟨(some 42), (.load (some 16) (.t 5)), none, 0⟩, ⟨(some 43), (.bslice 16 1 (.ints .i64 [0, 0, 0, 0, 0, 0, 0, 0, 0, 0, 0, 0, 0, 0, 0, 0]) [(0, 16, (.t 42))]), none, 0⟩, ⟨(some 44), (.app 16 128 (.t 41) (.t 43)), none, 1⟩, ⟨(some 3), (.mv (.t 44)), none, 2⟩], [41, 42, 43, 44], 2, true, []⟩
def r21_12 : Reg := ⟨[⟨(some 15), (.mv (.t 4)), none, 0⟩, ⟨(some 16), (.bin .add (.int .i64) (.t 15) (.c (.int .i64 1))), none, 0⟩, ⟨(some 4), (.mv (.t 16)), none, 0⟩], [15, 16], 0, false, []⟩
def l21_13 : SC := (.seq (.seq (.seq (.reg r21_3) (.cond (.t 14) .skip (.seq (.kill [0, 2, 4, 5, 6, 14, 22, 34]) (.exit 0)))) (.seq (.block 1 (.seq (.reg r21_4) (.seq (.seq (.reg r21_5) (.block 2 (.seq (.kill [2, 14, 22, 34]) (.loop l21_10)))) (.reg r21_11)))) (.reg r21_12))) (.seq (.kill [2, 5, 6, 14, 22, 34]) .tidy))
def r21_14 : Reg := ⟨[⟨(some 45), (.mv (.t 3)), none, 0⟩, ⟨(some 2), (.mv (.t 45)), none, 0⟩], [45], 0, false, []⟩
def sf21 : SFn := { np := 1, vars := [0, 2, 3, 4, 5, 6, 14, 22, 34], body := (.seq (.reg r21_0) (.seq (.reg r21_1) (.seq (.seq (.reg r21_2) (.block 0 (.seq (.kill [2, 5, 6, 14, 22, 34]) (.loop l21_13)))) (.seq (.reg r21_14) (.seq (.kill [0, 3, 4, 5, 6, 14, 22, 34]) .ret))))), res := [(.tmp 2)] }
/-! (calliope/lap.Lap).Whole -/
def r22_0 : Reg := ⟨[⟨(some 4), (.box (.t 0)), none, 0⟩, ⟨(some 8), (.mv (.c .nils)), none, 1⟩], [], 1, true, []⟩
def r22_1 : Reg := ⟨[⟨(some 12), (.mv (.t 1)), none, 0⟩, ⟨(some 13), (.len .slice (.t 12)), none, 0⟩, ⟨(some 14), (.mkslice 16 128 (.ints .i64 [0, 0, 0, 0, 0, 0, 0, 0, 0, 0, 0, 0, 0, 0, 0, 0]) (.t 13) (.t 13)), none, 0⟩, ⟨(some 9), (.mv (.t 14)), none, 1⟩], [12, 13, 14], 1, true, []⟩
def r22_2 : Reg := ⟨[⟨(some 15), (.mv (.t 1)), none, 0⟩, ⟨(some 16), (.len .slice (.t 15)), none, 0⟩, ⟨(some 17), (.mv (.c (.int .i64 0))), none, 0⟩], [15], 0, false, []⟩
def r22_3 : Reg := ⟨[⟨(some 18), (.bin .lss (.int .i64) (.t 17) (.t 16)), none, 0⟩], [], 0, false, []⟩
def r22_4 : Reg := ⟨[⟨(some 19), (.mv (.t 17)), none, 0⟩, ⟨(some 10), (.mv (.t 19)), none, 0⟩], [19], 0, false, []⟩
def r22_5 : Reg := ⟨[⟨(some 20), (.mv (.t 9)), none, 0⟩, ⟨(some 21), (.mv (.t 10)), none, 0⟩, ⟨(some 22), (.fieldAddr 16 (.t 4)), none, 0⟩, ⟨(some 23), (.load (some 16) (.t 22)), none, 0⟩, ⟨(some 24), (.mv (.t 1)), none, 0⟩, ⟨(some 25), (.mv (.t 10)), none, 0⟩, ⟨(some 26), (.idxS 16 (.t 24) (.t 25)), none, 0⟩, ⟨(some 27), (.load (some 16) (.t 26)), none, 0⟩, ⟨(some 28), (.callP 25 [(.t 23), (.t 27)]), none, 0⟩, ⟨(some 29), (.idxS 16 (.t 20) (.t 21)), none, 0⟩, ⟨none, (.store 16 (.t 29) (.t 28)), none, 0⟩], [20, 21, 22, 23, 24, 25, 26, 27, 28, 29], 0, false, []⟩
def r22_6 : Reg := ⟨[⟨(some 30), (.bin .add (.int .i64) (.t 17) (.c (.int .i64 1))), none, 0⟩, ⟨(some 17), (.mv (.t 30)), none, 0⟩], [30], 0, false, []⟩
def l22_7 : SC := (.seq (.seq (.reg r22_3) (.seq (.cond (.t 18) .skip (.seq (.kill [0, 1, 8, 10, 11, 16, 17, 18, 35, 36, 37, 42]) (.exit 0))) (.seq (.block 1 (.seq (.reg r22_4) (.reg r22_5))) (.reg r22_6)))) (.kill [0, 8, 10, 11, 18, 35, 36, 37, 42]))
def r22_8 : Reg := ⟨[⟨(some 31), (.load (some 32) (.t 4)), none, 0⟩, ⟨(some 32), (.mv (.t 9)), none, 0⟩, ⟨(some 33), (.call 34 [(.t 31), (.t 32)]), none, 0⟩, ⟨(some 9), (.mv (.t 33)), none, 0⟩], [31, 32, 33], 0, true, []⟩
def r22_9 : Reg := ⟨[⟨(some 34), (.mv (.t 9)), none, 0⟩, ⟨(some 35), (.len .slice (.t 34)), none, 0⟩, ⟨(some 36), (.mv (.c (.int .i64 0))), none, 0⟩], [34], 0, false, []⟩
def r22_10 : Reg := ⟨[⟨(some 37), (.bin .lss (.int .i64) (.t 36) (.t 35)), none, 0⟩], [], 0, false, []⟩
def r22_11 : Reg := ⟨[⟨(some 38), (.mv (.t 36)), none, 0⟩, ⟨(some 11), (.mv (.t 38)), none, 0⟩], [38], 0, false, []⟩
def r22_12 : Reg := ⟨[⟨(some 39), (.mv (.t 11)), none, 0⟩, ⟨(some 40), (.mv (.t 2)), none, 0⟩, ⟨(some 41), (.len .slice (.t 40)), none, 0⟩, ⟨(some 42), (.bin .lss (.int .i64) (.t 39) (.t 41)), none, 0⟩], [39, 40, 41], 0, false, []⟩
def r22_13 : Reg := ⟨[⟨(some 43), (.mv (.t 9)), none, 0⟩, ⟨(some 44), (.mv (.t 11)), none, 0⟩, ⟨(some 45), (.mv (.t 9)), none, 0⟩, ⟨(some 46), (.mv (.t 11)), none, 0⟩, ⟨(some 47), (.idxS 16 (.t 45) (.t 46)), none, 0⟩, ⟨(some 48), (.load (some 16) (.t 47)), none, 0⟩, ⟨(some 49), (.mv (.t 2)), none, 0⟩, ⟨(some 50), (.mv (.t 11)), none, 0⟩, ⟨(some 51), (.idxS 4 (.t 49) (.t 50)), none, 0⟩, ⟨(some 52), (.load (some 4) (.t 51)), none, 0⟩, ⟨(some 53), (.callP 35 [(.t 48), (.t 52)]), none, 0⟩, ⟨(some 54), (.idxS 16 (.t 43) (.t 44)), none, 0⟩, ⟨none, (.store 16 (.t 54) (.t 53)), none, 0⟩], [43, 44, 45, 46, 47, 48, 49, 50, 51, 52, 53, 54], 0, false, []⟩
def r22_14 : Reg := ⟨[⟨(some 55), (.bin .add (.int .i64) (.t 36) (.c (.int .i64 1))), none, 0⟩, ⟨(some 36), (.mv (.t 55)), none, 0⟩], [55], 0, false, []⟩
def l22_15 : SC := (.seq (.seq (.reg r22_10) (.seq (.cond (.t 37) .skip (.seq (.kill [0, 1, 2, 4, 8, 10, 11, 16, 17, 18, 35, 36, 37, 42]) (.exit 2))) (.seq (.block 3 (.seq (.reg r22_11) (.seq (.reg r22_12) (.cond (.t 42) (.reg r22_13) .skip)))) (.reg r22_14)))) (.kill [0, 1, 4, 8, 10, 11, 16, 17, 18, 37, 42]))
def r22_16 : Reg := ⟨[⟨(some 56), (.mv (.t 9)), none, 0⟩, ⟨(some 57), (.mv (.t 3)), none, 0⟩, ⟨(some 58), (.call 12 [(.t 56), (.t 57)]), none, 0⟩, ⟨(some 8), (.mv (.t 58)), none, 0⟩], [56, 57, 58], 0, true, []⟩
def sf22 : SFn := { np := 4, vars := [0, 1, 2, 3, 4, 8, 9, 10, 11, 16, 17, 18, 35, 36, 37, 42], body := (.seq (.reg r22_0) (.seq (.reg r22_1) (.seq (.seq (.reg r22_2) (.block 0 (.seq (.kill [0, 8, 10, 11, 18, 35, 36, 37, 42]) (.loop l22_7)))) (.seq (.reg r22_8) (.seq (.seq (.reg r22_9) (.block 2 (.seq (.kill [0, 1, 4, 8, 10, 11, 16, 17, 18, 37, 42]) (.loop l22_15)))) (.seq (.reg r22_16) (.seq (.kill [0, 1, 2, 3, 4, 9, 10, 11, 16, 17, 18, 35, 36, 37, 42]) .ret))))))), res := [(.tmp 8)] }
/-! (calliope/lap.Lap).One -/
def r23_0 : Reg := ⟨[⟨(some 5), (.box (.t 0)), none, 0⟩, ⟨(some 8), (.box (.t 3)), none, 1⟩, ⟨(some 10), (.mv (.c (.int .i64 0))), none, 2⟩], [5], 2, true, []⟩
def r23_1 : Reg := ⟨[⟨(some 13), (.mv (.t 1)), none, 0⟩, ⟨(some 14), (.bin .eql .ptr (.t 13) (.c .nilp)), none, 0⟩, ⟨(some 15), (.mv (.t 14)), none, 0⟩, ⟨(some 16), (.mv (.t 4)), (some (15, false)), 0⟩, ⟨(some 17), (.bin .lss (.int .i64) (.t 16) (.c (.int .i64 0))), (some (15, false)), 0⟩, ⟨(some 18), (.pick (.t 15) (.c (.bool true)) (.t 17)), none, 0⟩, ⟨(some 19), (.mv (.t 18)), none, 0⟩, ⟨(some 20), (.mv (.t 4)), (some (19, false)), 0⟩, ⟨(some 21), (.bin .geq (.int .i64) (.t 20) (.c (.int .i64 16))), (some (19, false)), 0⟩, ⟨(some 22), (.pick (.t 19) (.c (.bool true)) (.t 21)), none, 0⟩], [13, 14, 15, 16, 17, 18, 19, 20, 21], 0, false, []⟩
def r23_2 : Reg := ⟨[⟨(some 10), (.mv (.c (.int .i64 0))), none, 0⟩], [], 0, false, []⟩
def r23_3 : Reg := ⟨[⟨(some 23), (.mv (.t 1)), none, 0⟩, ⟨(some 24), (.mv (.t 4)), none, 0⟩, ⟨(some 25), (.nilck (.t 23)), none, 0⟩, ⟨(some 26), (.idxA 16 1 (.t 25) (.t 24)), none, 0⟩, ⟨(some 27), (.load none (.t 26)), none, 0⟩, ⟨(some 11), (.mv (.t 27)), none, 0⟩], [23, 24, 25, 26, 27], 0, false, []⟩
def r23_4 : Reg := ⟨[⟨(some 28), (.mv (.t 2)), none, 0⟩, ⟨(some 29), (.bin .neq .ptr (.t 28) (.c .nilp)), none, 0⟩], [28], 0, false, []⟩
def r23_5 : Reg := ⟨[⟨(some 30), (.mv (.t 4)), none, 0⟩, ⟨(some 31), (.mv (.t 4)), none, 0⟩, ⟨(some 32), (.bin .sub (.int .i64) (.c (.int .i64 15)) (.t 31)), none, 0⟩, ⟨(some 33), (.mx false [(.t 30), (.t 32)]), none, 0⟩, ⟨(some 34), (.callP 29 [(.t 33)]), none, 0⟩, ⟨(some 12), (.alloc (.ints .i64 [0, 0])), none, 0⟩, ⟨none, (.store 2 (.t 12) (.t 34)), none, 1⟩], [30, 31, 32, 33, 34], 1, true, []⟩
def r23_6 : Reg := ⟨[⟨(some 35), (.mv (.t 4)), none, 0⟩, ⟨(some 36), (.bin .lss (.int .i64) (.t 35) (.c (.int .i64 8))), none, 0⟩], [35], 0, false, []⟩
def r23_7 : Reg := ⟨[⟨(some 38), (.mv (.t 2)), none, 0⟩, ⟨(some 39), (.mv (.t 4)), none, 0⟩, ⟨(some 40), (.bin .sub (.int .i64) (.c (.int .i64 15)) (.t 39)), none, 0⟩, ⟨(some 41), (.nilck (.t 38)), none, 0⟩, ⟨(some 42), (.idxA 16 1 (.t 41) (.t 40)), none, 0⟩, ⟨(some 43), (.load none (.t 42)), none, 0⟩, ⟨(some 44), (.mv (.t 1)), none, 0⟩, ⟨(some 45), (.mv (.t 4)), none, 0⟩, ⟨(some 46), (.nilck (.t 44)), none, 0⟩, ⟨(some 47), (.idxA 16 1 (.t 46) (.t 45)), none, 0⟩, ⟨(some 48), (.load none (.t 47)), none, 0⟩, ⟨(some 49), (.load (some 2) (.t 12)), none, 0⟩, ⟨(some 50), (.callP 36 [(.t 43), (.t 48), (.t 49)]), none, 0⟩, ⟨(some 37), (.mv (.t 50)), none, 0⟩, ⟨(some 51), (.extract (.t 37) 0), none, 0⟩, ⟨(some 52), (.extract (.t 37) 1), none, 0⟩, ⟨(some 11), (.mv (.t 52)), none, 0⟩], [38, 39, 40, 41, 42, 43, 44, 45, 46, 47, 48, 49, 50, 37, 51, 52], 0, false, []⟩
def r23_8 : Reg := ⟨[⟨(some 54), (.mv (.t 1)), none, 0⟩, ⟨(some 55), (.mv (.t 4)), none, 0⟩, ⟨(some 56), (.nilck (.t 54)), none, 0⟩, ⟨(some 57), (.idxA 16 1 (.t 56) (.t 55)), none, 0⟩, ⟨(some 58), (.load none (.t 57)), none, 0⟩, ⟨(some 59), (.mv (.t 2)), none, 0⟩, ⟨(some 60), (.mv (.t 4)), none, 0⟩, ⟨(some 61), (.bin .sub (.int .i64) (.c (.int .i64 15)) (.t 60)), none, 0⟩, ⟨(some 62), (.nilck (.t 59)), none, 0⟩, ⟨(some 63), (.idxA 16 1 (.t 62) (.t 61)), none, 0⟩, ⟨(some 64), (.load none (.t 63)), none, 0⟩, ⟨(some 65), (.load (some 2) (.t 12)), none, 0⟩, ⟨(some 66), (.callP 36 [(.t 58), (.t 64), (.t 65)]), none, 0⟩, ⟨(some 53), (.mv (.t 66)), none, 0⟩, ⟨(some 67), (.extract (.t 53) 0), none, 0⟩, ⟨(some 68), (.extract (.t 53) 1), none, 0⟩, ⟨(some 11), (.mv (.t 67)), none, 0⟩], [54, 55, 56, 57, 58, 59, 60, 61, 62, 63, 64, 65, 66, 53, 67, 68], 0, false, []⟩
def r23_9 : Reg := ⟨[⟨(some 69), (.mv (.t 11)), none, 0⟩, ⟨(some 70), (.load (some 4) (.t 8)), none, 0⟩, ⟨(some 71), (.mv (.t 4)), none, 0⟩, ⟨(some 72), (.callP 27 [(.t 70), (.t 71)]), none, 0⟩, ⟨(some 73), (.callP 37 [(.t 69), (.t 72)]), none, 0⟩, ⟨(some 10), (.mv (.t 73)), none, 0⟩], [69, 70, 71, 72, 73], 0, false, []⟩
def sf23 : SFn := { np := 5, vars := [0, 1, 2, 3, 4, 8, 10, 11, 12, 22, 29, 36], body := (.seq (.reg r23_0) (.seq (.seq (.reg r23_1) (.cond (.t 22) (.seq (.reg r23_2) (.seq (.kill [0, 1, 2, 3, 4, 8, 11, 12, 22, 29, 36]) .ret)) .skip)) (.seq (.reg r23_3) (.seq (.seq (.reg r23_4) (.cond (.t 29) (.seq (.reg r23_5) (.seq (.reg r23_6) (.cond (.t 36) (.reg r23_7) (.reg r23_8)))) .skip)) (.seq (.reg r23_9) (.seq (.kill [0, 1, 2, 3, 4, 8, 11, 12, 22, 29, 36]) .ret)))))), res := [(.tmp 10)] }
/-! calliope/lap.Need -/
def r24_0 : Reg := ⟨[⟨(some 4), (.mv (.c (.int .i64 0))), none, 0⟩, ⟨(some 5), (.mv (.c (.int .i64 0))), none, 0⟩], [], 0, false, []⟩
def r24_1 : Reg := ⟨[⟨(some 7), (.mv (.t 0)), none, 0⟩, ⟨(some 8), (.bin .lss (.int .i64) (.t 7) (.c (.int .i64 0))), none, 0⟩, ⟨(some 9), (.mv (.t 8)), none, 0⟩, ⟨(some 10), (.mv (.t 0)), (some (9, false)), 0⟩, ⟨(some 11), (.mv (.t 1)), (some (9, false)), 0⟩, ⟨(some 12), (.bin .mul (.int .i64) (.c (.int .i64 16)) (.t 11)), (some (9, false)), 0⟩, ⟨(some 13), (.bin .geq (.int .i64) (.t 10) (.t 12)), (some (9, false)), 0⟩, ⟨(some 14), (.pick (.t 9) (.c (.bool true)) (.t 13)), none, 0⟩], [7, 8, 9, 10, 11, 12, 13], 0, false, []⟩
def r24_2 : Reg := ⟨[⟨(some 4), (.mv (.c (.int .i64 0))), none, 0⟩, ⟨(some 5), (.mv (.c (.int .i64 (-1)))), none, 0⟩], [], 0, false, []⟩
def r24_3 : Reg := ⟨[⟨(some 15), (.mv (.t 0)), none, 0⟩, ⟨(some 16), (.bin .quo (.int .i64) (.t 15) (.c (.int .i64 16))), none, 0⟩, ⟨(some 6), (.mv (.t 16)), none, 0⟩], [15, 16], 0, false, []⟩
def r24_4 : Reg := ⟨[⟨(some 17), (.mv (.t 0)), none, 0⟩, ⟨(some 18), (.bin .rem (.int .i64) (.t 17) (.c (.int .i64 16))), none, 0⟩, ⟨(some 19), (.bin .lss (.int .i64) (.t 18) (.c (.int .i64 8))), none, 0⟩], [17, 18], 0, false, []⟩
def r24_5 : Reg := ⟨[⟨(some 20), (.mv (.t 6)), none, 0⟩, ⟨(some 21), (.bin .sub (.int .i64) (.t 20) (.c (.int .i64 1))), none, 0⟩, ⟨(some 22), (.mx true [(.t 21), (.c (.int .i64 0))]), none, 0⟩, ⟨(some 23), (.mv (.t 6)), none, 0⟩, ⟨(some 4), (.mv (.t 22)), none, 0⟩, ⟨(some 5), (.mv (.t 23)), none, 0⟩], [20, 21, 22, 23], 0, false, []⟩
def r24_6 : Reg := ⟨[⟨(some 24), (.mv (.t 6)), none, 0⟩, ⟨(some 25), (.mv (.t 6)), none, 0⟩, ⟨(some 26), (.bin .add (.int .i64) (.t 25) (.c (.int .i64 1))), none, 0⟩, ⟨(some 27), (.mv (.t 1)), none, 0⟩, ⟨(some 28), (.bin .sub (.int .i64) (.t 27) (.c (.int .i64 1))), none, 0⟩, ⟨(some 29), (.mx false [(.t 26), (.t 28)]), none, 0⟩, ⟨(some 4), (.mv (.t 24)), none, 0⟩, ⟨(some 5), (.mv (.t 29)), none, 0⟩], [24, 25, 26, 27, 28, 29], 0, false, []⟩
def sf24 : SFn := { np := 2, vars := [0, 1, 4, 5, 6, 14, 19], body := (.seq (.reg r24_0) (.seq (.seq (.reg r24_1) (.cond (.t 14) (.seq (.reg r24_2) (.seq (.kill [0, 1, 6, 14, 19]) .ret)) .skip)) (.seq (.reg r24_3) (.seq (.seq (.reg r24_4) (.cond (.t 19) (.seq (.reg r24_5) (.seq (.kill [0, 1, 6, 14, 19]) .ret)) .skip)) (.seq (.reg r24_6) (.seq (.kill [0, 1, 6, 14, 19]) .ret)))))), res := [(.tmp 4), (.tmp 5)] }
/-! calliope/calliopelaw08.same -/
def r26_0 : Reg := ⟨[⟨(some 4), (.mv (.c (.bool false))), none, 0⟩], [], 0, false, []⟩
def r26_1 : Reg := ⟨[⟨(some 6), (.mv (.t 0)), none, 0⟩, ⟨(some 7), (.len .slice (.t 6)), none, 0⟩, ⟨(some 8), (.mv (.t 1)), none, 0⟩, ⟨(some 9), (.len .slice (.t 8)), none, 0⟩, ⟨(some 10), (.bin .neq (.int .i64) (.t 7) (.t 9)), none, 0⟩], [6, 7, 8, 9], 0, false, []⟩
def r26_2 : Reg := ⟨[⟨(some 4), (.mv (.c (.bool false))), none, 0⟩], [], 0, false, []⟩
def r26_3 : Reg := ⟨[⟨(some 5), (.mv (.c (.int .i64 0))), none, 0⟩], [], 0, false, []⟩
def r26_4 : Reg := ⟨[⟨(some 11), (.mv (.t 5)), none, 0⟩, ⟨(some 12), (.mv (.t 0)), none, 0⟩, ⟨(some 13), (.len .slice (.t 12)), none, 0⟩, ⟨(some 14), (.bin .lss (.int .i64) (.t 11) (.t 13)), none, 0⟩], [11, 12, 13], 0, false, []⟩
def r26_5 : Reg := ⟨[⟨(some 17), (.mv (.t 0)), none, 0⟩, ⟨(some 18), (.mv (.t 5)), none, 0⟩, ⟨(some 19), (.idxS 1 (.t 17) (.t 18)), none, 0⟩, ⟨(some 20), (.load none (.t 19)), none, 0⟩, ⟨(some 21), (.mv (.t 1)), none, 0⟩, ⟨(some 22), (.mv (.t 5)), none, 0⟩, ⟨(some 23), (.idxS 1 (.t 21) (.t 22)), none, 0⟩, ⟨(some 24), (.load none (.t 23)), none, 0⟩, ⟨(some 25), (.bin .neq (.int .i64) (.t 20) (.t 24)), none, 0⟩], [17, 18, 19, 20, 21, 22, 23, 24], 0, false, []⟩
def r26_6 : Reg := ⟨[⟨(some 4), (.mv (.c (.bool false))), none, 0⟩], [], 0, false, []⟩
def r26_7 : Reg := ⟨[⟨(some 15), (.mv (.t 5)), none, 0⟩, ⟨(some 16), (.bin .add (.int .i64) (.t 15) (.c (.int .i64 1))), none, 0⟩, ⟨(some 5), (.mv (.t 16)), none, 0⟩], [15, 16], 0, false, []⟩
def l26_8 : SC := (.seq (.seq (.seq (.reg r26_4) (.cond (.t 14) .skip (.seq (.kill [0, 1, 4, 5, 10, 14, 25]) (.exit 0)))) (.seq (.block 1 (.seq (.reg r26_5) (.cond (.t 25) (.seq (.reg r26_6) (.seq (.kill [0, 1, 5, 10, 14, 25]) .ret)) .skip))) (.reg r26_7))) (.kill [4, 10, 14, 25]))
def r26_9 : Reg := ⟨[⟨(some 4), (.mv (.c (.bool true))), none, 0⟩], [], 0, false, []⟩
def sf26 : SFn := { np := 2, vars := [0, 1, 4, 5, 10, 14, 25], body := (.seq (.reg r26_0) (.seq (.seq (.reg r26_1) (.cond (.t 10) (.seq (.reg r26_2) (.seq (.kill [0, 1, 5, 10, 14, 25]) .ret)) .skip)) (.seq (.seq (.reg r26_3) (.block 0 (.seq (.kill [4, 10, 14, 25]) (.loop l26_8)))) (.seq (.reg r26_9) (.seq (.kill [0, 1, 5, 10, 14, 25]) .ret))))), res := [(.tmp 4)] }
/-! calliope/gain.At -/
def r27_0 : Reg := ⟨[⟨(some 2), (.box (.t 0)), none, 0⟩, ⟨(some 4), (.mv (.c (.int .i64 0))), none, 1⟩], [], 1, true, []⟩
def r27_1 : Reg := ⟨[⟨(some 5), (.mv (.t 1)), none, 0⟩, ⟨(some 6), (.bin .lss (.int .i64) (.t 5) (.c (.int .i64 0))), none, 0⟩, ⟨(some 7), (.mv (.t 6)), none, 0⟩, ⟨(some 8), (.mv (.t 1)), (some (7, false)), 0⟩, ⟨(some 9), (.bin .geq (.int .i64) (.t 8) (.c (.int .i64 16))), (some (7, false)), 0⟩, ⟨(some 10), (.pick (.t 7) (.c (.bool true)) (.t 9)), none, 0⟩, ⟨(some 11), (.mv (.t 10)), none, 0⟩, ⟨(some 12), (.load (some 4) (.t 2)), (some (11, false)), 0⟩, ⟨(some 13), (.callP 38 [(.t 12)]), (some (11, false)), 0⟩, ⟨(some 14), (.un .not (.t 13)), (some (11, false)), 0⟩, ⟨(some 15), (.pick (.t 11) (.c (.bool true)) (.t 14)), none, 0⟩], [5, 6, 7, 8, 9, 10, 11, 12, 13, 14], 0, false, []⟩
def r27_2 : Reg := ⟨[⟨(some 4), (.mv (.c (.int .i64 0))), none, 0⟩], [], 0, false, []⟩
def r27_3 : Reg := ⟨[⟨(some 16), (.mv (.t 1)), none, 0⟩, ⟨(some 17), (.bin .quo (.int .i64) (.t 16) (.c (.int .i64 4))), none, 0⟩, ⟨(some 18), (.idxA 4 1 (.t 2) (.t 17)), none, 0⟩, ⟨(some 19), (.load none (.t 18)), none, 0⟩, ⟨(some 4), (.mv (.t 19)), none, 0⟩], [16, 17, 18, 19], 0, false, []⟩
def sf27 : SFn := { np := 2, vars := [0, 1, 2, 4, 15], body := (.seq (.reg r27_0) (.seq (.seq (.reg r27_1) (.cond (.t 15) (.seq (.reg r27_2) (.seq (.kill [0, 1, 2, 15]) .ret)) .skip)) (.seq (.reg r27_3) (.seq (.kill [0, 1, 2, 15]) .ret)))), res := [(.tmp 4)] }
/-! calliope/lift.Turn -/
def r28_0 : Reg := ⟨[⟨(some 5), (.box (.t 2)), none, 0⟩, ⟨(some 6), (.mv (.c (.int .i64 0))), none, 1⟩, ⟨(some 7), (.mv (.c (.int .i64 0))), none, 1⟩], [], 1, true, []⟩
def r28_1 : Reg := ⟨[⟨(some 8), (.mv (.t 0)), none, 0⟩, ⟨(some 9), (.fieldAddr 0 (.t 5)), none, 0⟩, ⟨(some 10), (.load none (.t 9)), none, 0⟩, ⟨(some 11), (.mv (.t 1)), none, 0⟩, ⟨(some 12), (.callP 39 [(.t 10), (.t 11)]), none, 0⟩, ⟨(some 13), (.bin .add (.int .i64) (.t 8) (.t 12)), none, 0⟩, ⟨(some 0), (.mv (.t 13)), none, 0⟩], [8, 9, 10, 11, 12, 13], 0, false, []⟩
def r28_2 : Reg := ⟨[⟨(some 14), (.mv (.t 1)), none, 0⟩, ⟨(some 15), (.fieldAddr 1 (.t 5)), none, 0⟩, ⟨(some 16), (.load none (.t 15)), none, 0⟩, ⟨(some 17), (.mv (.t 0)), none, 0⟩, ⟨(some 18), (.callP 39 [(.t 16), (.t 17)]), none, 0⟩, ⟨(some 19), (.bin .sub (.int .i64) (.t 14) (.t 18)), none, 0⟩, ⟨(some 1), (.mv (.t 19)), none, 0⟩], [14, 15, 16, 17, 18, 19], 0, false, []⟩
def r28_3 : Reg := ⟨[⟨(some 20), (.mv (.t 0)), none, 0⟩, ⟨(some 21), (.fieldAddr 0 (.t 5)), none, 0⟩, ⟨(some 22), (.load none (.t 21)), none, 0⟩, ⟨(some 23), (.mv (.t 1)), none, 0⟩, ⟨(some 24), (.callP 39 [(.t 22), (.t 23)]), none, 0⟩, ⟨(some 25), (.bin .add (.int .i64) (.t 20) (.t 24)), none, 0⟩, ⟨(some 0), (.mv (.t 25)), none, 0⟩], [20, 21, 22, 23, 24, 25], 0, false, []⟩
def r28_4 : Reg := ⟨[⟨(some 26), (.mv (.t 0)), none, 0⟩, ⟨(some 27), (.mv (.t 1)), none, 0⟩, ⟨(some 6), (.mv (.t 26)), none, 0⟩, ⟨(some 7), (.mv (.t 27)), none, 0⟩], [26, 27], 0, false, []⟩
def sf28 : SFn := { np := 3, vars := [0, 1, 2, 5, 6, 7], body := (.seq (.reg r28_0) (.seq (.reg r28_1) (.seq (.reg r28_2) (.seq (.reg r28_3) (.seq (.reg r28_4) (.seq (.kill [0, 1, 2, 5]) .ret)))))), res := [(.tmp 6), (.tmp 7)] }
/-! calliope/table.Turn -/
def r29_0 : Reg := ⟨[⟨(some 2), (.alloc (.ints .i64 [0, 0])), none, 0⟩], [], 1, true, []⟩
def r29_1 : Reg := ⟨[⟨(some 5), (.mv (.t 0)), none, 0⟩, ⟨(some 6), (.bin .lss (.int .i64) (.t 5) (.c (.int .i64 0))), none, 0⟩, ⟨(some 7), (.mv (.t 6)), none, 0⟩, ⟨(some 8), (.mv (.t 0)), (some (7, false)), 0⟩, ⟨(some 9), (.bin .geq (.int .i64) (.t 8) (.c (.int .i64 8))), (some (7, false)), 0⟩, ⟨(some 10), (.pick (.t 7) (.c (.bool true)) (.t 9)), none, 0⟩], [5, 6, 7, 8, 9], 0, false, []⟩
def r29_2 : Reg := ⟨[⟨(some 11), (.build (.ints .i64 [0, 0]) []), none, 0⟩, ⟨none, (.store 2 (.t 2) (.t 11)), none, 0⟩], [11], 0, false, []⟩
def r29_3 : Reg := ⟨[⟨(some 12), (.mv (.t 0)), none, 0⟩, ⟨(some 13), (.bin .mul (.int .i64) (.c (.int .i64 2)) (.t 12)), none, 0⟩, ⟨(some 14), (.bin .add (.int .i64) (.t 13) (.c (.int .i64 1))), none, 0⟩, ⟨(some 3), (.mv (.t 14)), none, 0⟩], [12, 13, 14], 0, false, []⟩
def r29_4 : Reg := ⟨[⟨(some 15), (.mv (.t 3)), none, 0⟩, ⟨(some 16), (.mv (.t 3)), none, 0⟩, ⟨(some 17), (.bin .mul (.int .i64) (.t 15) (.t 16)), none, 0⟩, ⟨(some 18), (.bin .add (.int .i64) (.c (.int .i64 1024)) (.t 17)), none, 0⟩, ⟨(some 4), (.mv (.t 18)), none, 0⟩], [15, 16, 17, 18], 0, false, []⟩
def r29_5 : Reg := ⟨[⟨(some 19), (.mv (.t 3)), none, 0⟩, ⟨(some 20), (.bin .shl (.int .i64) (.t 19) (.c (.int .u64 9))), none, 0⟩, ⟨(some 21), (.mv (.t 3)), none, 0⟩, ⟨(some 22), (.bin .shl (.int .i64) (.t 21) (.c (.int .u64 20))), none, 0⟩, ⟨(some 23), (.mv (.t 4)), none, 0⟩, ⟨(some 24), (.bin .quo (.int .i64) (.t 23) (.c (.int .i64 2))), none, 0⟩, ⟨(some 25), (.bin .add (.int .i64) (.t 22) (.t 24)), none, 0⟩, ⟨(some 26), (.mv (.t 4)), none, 0⟩, ⟨(some 27), (.bin .quo (.int .i64) (.t 25) (.t 26)), none, 0⟩, ⟨(some 28), (.build (.ints .i64 [0, 0]) [(0, 1, (.t 20)), (1, 1, (.t 27))]), none, 0⟩, ⟨none, (.store 2 (.t 2) (.t 28)), none, 0⟩], [19, 20, 21, 22, 23, 24, 25, 26, 27, 28], 0, false, []⟩
def sf29 : SFn := { np := 1, vars := [0, 2, 3, 4, 10], body := (.seq (.reg r29_0) (.seq (.seq (.reg r29_1) (.cond (.t 10) (.seq (.reg r29_2) (.seq (.kill [0, 3, 4, 10]) .ret)) .skip)) (.seq (.reg r29_3) (.seq (.reg r29_4) (.seq (.reg r29_5) (.seq (.kill [0, 3, 4, 10]) .ret)))))), res := [(.cell 2 (some 2))] }
/-! calliope/table.Turns -/
def r30_0 : Reg := ⟨[⟨(some 0), (.alloc (.ints .i64 [0, 0, 0, 0, 0, 0, 0, 0, 0, 0, 0, 0, 0, 0, 0, 0])), none, 0⟩], [], 1, true, []⟩
def r30_1 : Reg := ⟨[⟨(some 1), (.alloc (.ints .i64 [0, 0, 0, 0, 0, 0, 0, 0, 0, 0, 0, 0, 0, 0, 0, 0])), none, 0⟩], [], 1, true, []⟩
def r30_2 : Reg := ⟨[⟨(some 3), (.mv (.c (.int .i64 0))), none, 0⟩], [], 0, false, []⟩
def r30_3 : Reg := ⟨[⟨(some 4), (.bin .lss (.int .i64) (.t 3) (.c (.int .i64 8))), none, 0⟩], [], 0, false, []⟩
def r30_4 : Reg := ⟨[⟨(some 5), (.mv (.t 3)), none, 0⟩, ⟨(some 2), (.mv (.t 5)), none, 0⟩], [5], 0, false, []⟩
def r30_5 : Reg := ⟨[⟨(some 6), (.mv (.t 2)), none, 0⟩, ⟨(some 7), (.mv (.t 2)), none, 0⟩, ⟨(some 8), (.callP 29 [(.t 7)]), none, 0⟩, ⟨(some 9), (.idxA 8 2 (.t 1) (.t 6)), none, 0⟩, ⟨none, (.store 2 (.t 9) (.t 8)), none, 0⟩], [6, 7, 8, 9], 0, false, []⟩
def r30_6 : Reg := ⟨[⟨(some 10), (.bin .add (.int .i64) (.t 3) (.c (.int .i64 1))), none, 0⟩, ⟨(some 3), (.mv (.t 10)), none, 0⟩], [10], 0, false, []⟩
def l30_7 : SC := (.seq (.seq (.reg r30_3) (.seq (.cond (.t 4) .skip (.seq (.kill [2, 3, 4]) (.exit 0))) (.seq (.block 1 (.seq (.reg r30_4) (.reg r30_5))) (.reg r30_6)))) (.kill [2, 4]))
def r30_8 : Reg := ⟨[⟨(some 11), (.load (some 16) (.t 1)), none, 0⟩, ⟨none, (.store 16 (.t 0) (.t 11)), none, 0⟩], [11], 0, false, []⟩
def sf30 : SFn := { np := 0, vars := [0, 1, 2, 3, 4], body := (.seq (.reg r30_0) (.seq (.reg r30_1) (.seq (.seq (.reg r30_2) (.block 0 (.seq (.kill [2, 4]) (.loop l30_7)))) (.seq (.reg r30_8) (.seq (.kill [1, 2, 3, 4]) .ret))))), res := [(.cell 0 (some 16))] }
/-! calliope/lift.New -/
def r32_0 : Reg := ⟨[⟨(some 1), (.box (.t 0)), none, 0⟩, ⟨(some 2), (.alloc (.ints .i64 [0, 0, 0, 0, 0, 0, 0, 0, 0, 0, 0, 0, 0, 0, 0, 0])), none, 1⟩], [], 2, true, []⟩
def r32_1 : Reg := ⟨[⟨(some 3), (.load (some 16) (.t 1)), none, 0⟩, ⟨(some 4), (.build (.ints .i64 [0, 0, 0, 0, 0, 0, 0, 0, 0, 0, 0, 0, 0, 0, 0, 0]) [(0, 16, (.t 3))]), none, 0⟩, ⟨none, (.store 16 (.t 2) (.t 4)), none, 0⟩], [3, 4], 0, false, []⟩
def sf32 : SFn := { np := 1, vars := [0, 1, 2], body := (.seq (.reg r32_0) (.seq (.reg r32_1) (.seq (.kill [0, 1]) .ret))), res := [(.cell 2 (some 16))] }
/-! (calliope/lap.Lap).Join -/
def r33_0 : Reg := ⟨[⟨(some 2), (.box (.t 0)), none, 0⟩, ⟨(some 4), (.mv (.c .nils)), none, 1⟩], [], 1, true, []⟩
def r33_1 : Reg := ⟨[⟨(some 7), (.mv (.t 1)), none, 0⟩, ⟨(some 8), (.app 16 128 (.c .nils) (.t 7)), none, 0⟩, ⟨(some 5), (.mv (.t 8)), none, 1⟩], [7, 8], 1, true, []⟩
def r33_2 : Reg := ⟨[⟨(some 6), (.mv (.c (.int .i64 1))), none, 0⟩], [], 0, false, []⟩
def r33_3 : Reg := ⟨[⟨(some 9), (.mv (.t 6)), none, 0⟩, ⟨(some 10), (.mv (.t 5)), none, 0⟩, ⟨(some 11), (.len .slice (.t 10)), none, 0⟩, ⟨(some 12), (.bin .lss (.int .i64) (.t 9) (.t 11)), none, 0⟩], [9, 10, 11], 0, false, []⟩
def r33_4 : Reg := ⟨[⟨(some 15), (.load (some 32) (.t 2)), none, 0⟩, ⟨(some 16), (.mv (.t 5)), none, 0⟩, ⟨(some 17), (.mv (.t 6)), none, 0⟩, ⟨(some 18), (.bin .sub (.int .i64) (.t 17) (.c (.int .i64 1))), none, 0⟩, ⟨(some 19), (.idxS 16 (.t 16) (.t 18)), none, 0⟩, ⟨(some 20), (.mv (.t 5)), none, 0⟩, ⟨(some 21), (.mv (.t 6)), none, 0⟩, ⟨(some 22), (.idxS 16 (.t 20) (.t 21)), none, 0⟩, ⟨(some 23), (.fieldAddr 0 (.t 2)), none, 0⟩, ⟨(some 24), (.load (some 16) (.t 23)), none, 0⟩, ⟨(some 25), (.mkfn 43 [(.t 24)] []), none, 0⟩, ⟨(some 26), (.call 42 [(.t 15), (.t 19), (.t 22), (.t 25)]), none, 0⟩], [15, 16, 17, 18, 19, 20, 21, 22, 23, 24, 25, 26], 0, true, []⟩
def r33_5 : Reg := ⟨[⟨(some 13), (.mv (.t 6)), none, 0⟩, ⟨(some 14), (.bin .add (.int .i64) (.t 13) (.c (.int .i64 1))), none, 0⟩, ⟨(some 6), (.mv (.t 14)), none, 0⟩], [13, 14], 0, false, []⟩
def l33_6 : SC := (.seq (.seq (.seq (.reg r33_3) (.cond (.t 12) .skip (.seq (.kill [0, 1, 2, 4, 6, 12]) (.exit 0)))) (.seq (.block 1 (.reg r33_4)) (.reg r33_5))) (.seq (.kill [0, 1, 4, 12]) .tidy))
def r33_7 : Reg := ⟨[⟨(some 27), (.mv (.t 5)), none, 0⟩, ⟨(some 4), (.mv (.t 27)), none, 0⟩], [27], 0, false, []⟩
def sf33 : SFn := { np := 2, vars := [0, 1, 2, 4, 5, 6, 12], body := (.seq (.reg r33_0) (.seq (.reg r33_1) (.seq (.seq (.reg r33_2) (.block 0 (.seq (.kill [0, 1, 4, 12]) (.loop l33_6)))) (.seq (.reg r33_7) (.seq (.kill [0, 1, 2, 5, 6, 12]) .ret))))), res := [(.tmp 4)] }
/-! (calliope/lap.Lap).Part -/
def r34_0 : Reg := ⟨[⟨(some 2), (.box (.t 0)), none, 0⟩, ⟨(some 4), (.mv (.c .nils)), none, 1⟩], [], 1, true, []⟩
def r34_1 : Reg := ⟨[⟨(some 7), (.mv (.t 1)), none, 0⟩, ⟨(some 8), (.app 16 128 (.c .nils) (.t 7)), none, 0⟩, ⟨(some 5), (.mv (.t 8)), none, 1⟩], [7, 8], 1, true, []⟩
def r34_2 : Reg := ⟨[⟨(some 6), (.mv (.c (.int .i64 1))), none, 0⟩], [], 0, false, []⟩
def r34_3 : Reg := ⟨[⟨(some 9), (.mv (.t 6)), none, 0⟩, ⟨(some 10), (.mv (.t 5)), none, 0⟩, ⟨(some 11), (.len .slice (.t 10)), none, 0⟩, ⟨(some 12), (.bin .lss (.int .i64) (.t 9) (.t 11)), none, 0⟩], [9, 10, 11], 0, false, []⟩
def r34_4 : Reg := ⟨[⟨(some 15), (.load (some 32) (.t 2)), none, 0⟩, ⟨(some 16), (.mv (.t 5)), none, 0⟩, ⟨(some 17), (.mv (.t 6)), none, 0⟩, ⟨(some 18), (.bin .sub (.int .i64) (.t 17) (.c (.int .i64 1))), none, 0⟩, ⟨(some 19), (.idxS 16 (.t 16) (.t 18)), none, 0⟩, ⟨(some 20), (.mv (.t 5)), none, 0⟩, ⟨(some 21), (.mv (.t 6)), none, 0⟩, ⟨(some 22), (.idxS 16 (.t 20) (.t 21)), none, 0⟩, ⟨(some 23), (.fieldAddr 0 (.t 2)), none, 0⟩, ⟨(some 24), (.load (some 16) (.t 23)), none, 0⟩, ⟨(some 25), (.mkfn 44 [(.t 24)] []), none, 0⟩, ⟨(some 26), (.call 42 [(.t 15), (.t 19), (.t 22), (.t 25)]), none, 0⟩], [15, 16, 17, 18, 19, 20, 21, 22, 23, 24, 25, 26], 0, true, []⟩
def r34_5 : Reg := ⟨[⟨(some 13), (.mv (.t 6)), none, 0⟩, ⟨(some 14), (.bin .add (.int .i64) (.t 13) (.c (.int .i64 1))), none, 0⟩, ⟨(some 6), (.mv (.t 14)), none, 0⟩], [13, 14], 0, false, []⟩
def l34_6 : SC := (.seq (.seq (.seq (.reg r34_3) (.cond (.t 12) .skip (.seq (.kill [0, 1, 2, 4, 6, 12]) (.exit 0)))) (.seq (.block 1 (.reg r34_4)) (.reg r34_5))) (.seq (.kill [0, 1, 4, 12]) .tidy))
def r34_7 : Reg := ⟨[⟨(some 27), (.mv (.t 5)), none, 0⟩, ⟨(some 4), (.mv (.t 27)), none, 0⟩], [27], 0, false, []⟩
def sf34 : SFn := { np := 2, vars := [0, 1, 2, 4, 5, 6, 12], body := (.seq (.reg r34_0) (.seq (.reg r34_1) (.seq (.seq (.reg r34_2) (.block 0 (.seq (.kill [0, 1, 4, 12]) (.loop l34_6)))) (.seq (.reg r34_7) (.seq (.kill [0, 1, 2, 5, 6, 12]) .ret))))), res := [(.tmp 4)] }
/-! calliope/gain.Down -/
def r35_0 : Reg := ⟨[⟨(some 2), (.box (.t 0)), none, 0⟩, ⟨(some 3), (.box (.t 1)), none, 1⟩, ⟨(some 4), (.alloc (.ints .i64 [0, 0, 0, 0, 0, 0, 0, 0, 0, 0, 0, 0, 0, 0, 0, 0])), none, 2⟩], [], 3, true, []⟩
def r35_1 : Reg := ⟨[⟨(some 6), (.mv (.c (.int .i64 0))), none, 0⟩], [], 0, false, []⟩
def r35_2 : Reg := ⟨[⟨(some 7), (.bin .lss (.int .i64) (.t 6) (.c (.int .i64 16))), none, 0⟩], [], 0, false, []⟩
def r35_3 : Reg := ⟨[⟨(some 8), (.mv (.t 6)), none, 0⟩, ⟨(some 5), (.mv (.t 8)), none, 0⟩], [8], 0, false, []⟩
def r35_4 : Reg := ⟨[⟨(some 9), (.mv (.t 5)), none, 0⟩, ⟨(some 10), (.mv (.t 5)), none, 0⟩, ⟨(some 11), (.idxA 16 1 (.t 2) (.t 10)), none, 0⟩, ⟨(some 12), (.load none (.t 11)), none, 0⟩, ⟨(some 13), (.load (some 4) (.t 3)), none, 0⟩, ⟨(some 14), (.mv (.t 5)), none, 0⟩, ⟨(some 15), (.callP 27 [(.t 13), (.t 14)]), none, 0⟩, ⟨(some 16), (.callP 37 [(.t 12), (.t 15)]), none, 0⟩, ⟨(some 17), (.idxA 16 1 (.t 2) (.t 9)), none, 0⟩, ⟨none, (.store 1 (.t 17) (.t 16)), none, 0⟩], [9, 10, 11, 12, 13, 14, 15, 16, 17], 0, false, []⟩
def r35_5 : Reg := ⟨[⟨(some 18), (.bin .add (.int .i64) (.t 6) (.c (.int .i64 1))), none, 0⟩, ⟨(some 6), (.mv (.t 18)), none, 0⟩], [18], 0, false, []⟩
def l35_6 : SC := (.seq (.seq (.reg r35_2) (.seq (.cond (.t 7) .skip (.seq (.kill [0, 1, 3, 5, 6, 7]) (.exit 0))) (.seq (.block 1 (.seq (.reg r35_3) (.reg r35_4))) (.reg r35_5)))) (.kill [0, 1, 5, 7]))
def r35_7 : Reg := ⟨[⟨(some 19), (.load (some 16) (.t 2)), none, 0⟩, ⟨none, (.store 16 (.t 4) (.t 19)), none, 0⟩], [19], 0, false, []⟩
def sf35 : SFn := { np := 2, vars := [0, 1, 2, 3, 4, 5, 6, 7], body := (.seq (.reg r35_0) (.seq (.seq (.reg r35_1) (.block 0 (.seq (.kill [0, 1, 5, 7]) (.loop l35_6)))) (.seq (.reg r35_7) (.seq (.kill [0, 1, 2, 3, 5, 6, 7]) .ret)))), res := [(.cell 4 (some 16))] }
/-! calliope/lift.Back -/
def r36_0 : Reg := ⟨[⟨(some 5), (.box (.t 2)), none, 0⟩, ⟨(some 6), (.mv (.c (.int .i64 0))), none, 1⟩, ⟨(some 7), (.mv (.c (.int .i64 0))), none, 1⟩], [], 1, true, []⟩
def r36_1 : Reg := ⟨[⟨(some 8), (.mv (.t 0)), none, 0⟩, ⟨(some 9), (.fieldAddr 0 (.t 5)), none, 0⟩, ⟨(some 10), (.load none (.t 9)), none, 0⟩, ⟨(some 11), (.mv (.t 1)), none, 0⟩, ⟨(some 12), (.callP 39 [(.t 10), (.t 11)]), none, 0⟩, ⟨(some 13), (.bin .sub (.int .i64) (.t 8) (.t 12)), none, 0⟩, ⟨(some 0), (.mv (.t 13)), none, 0⟩], [8, 9, 10, 11, 12, 13], 0, false, []⟩
def r36_2 : Reg := ⟨[⟨(some 14), (.mv (.t 1)), none, 0⟩, ⟨(some 15), (.fieldAddr 1 (.t 5)), none, 0⟩, ⟨(some 16), (.load none (.t 15)), none, 0⟩, ⟨(some 17), (.mv (.t 0)), none, 0⟩, ⟨(some 18), (.callP 39 [(.t 16), (.t 17)]), none, 0⟩, ⟨(some 19), (.bin .add (.int .i64) (.t 14) (.t 18)), none, 0⟩, ⟨(some 1), (.mv (.t 19)), none, 0⟩], [14, 15, 16, 17, 18, 19], 0, false, []⟩
def r36_3 : Reg := ⟨[⟨(some 20), (.mv (.t 0)), none, 0⟩, ⟨(some 21), (.fieldAddr 0 (.t 5)), none, 0⟩, ⟨(some 22), (.load none (.t 21)), none, 0⟩, ⟨(some 23), (.mv (.t 1)), none, 0⟩, ⟨(some 24), (.callP 39 [(.t 22), (.t 23)]), none, 0⟩, ⟨(some 25), (.bin .sub (.int .i64) (.t 20) (.t 24)), none, 0⟩, ⟨(some 0), (.mv (.t 25)), none, 0⟩], [20, 21, 22, 23, 24, 25], 0, false, []⟩
def r36_4 : Reg := ⟨[⟨(some 26), (.mv (.t 0)), none, 0⟩, ⟨(some 27), (.mv (.t 1)), none, 0⟩, ⟨(some 6), (.mv (.t 26)), none, 0⟩, ⟨(some 7), (.mv (.t 27)), none, 0⟩], [26, 27], 0, false, []⟩
def sf36 : SFn := { np := 3, vars := [0, 1, 2, 5, 6, 7], body := (.seq (.reg r36_0) (.seq (.reg r36_1) (.seq (.reg r36_2) (.seq (.reg r36_3) (.seq (.reg r36_4) (.seq (.kill [0, 1, 2, 5]) .ret)))))), res := [(.tmp 6), (.tmp 7)] }
/-! calliope/num.Round -/
def r37_0 : Reg := ⟨[⟨(some 4), (.mv (.c (.int .i64 0))), none, 0⟩], [], 0, false, []⟩
def r37_1 : Reg := ⟨[⟨(some 6), (.mv (.t 1)), none, 0⟩, ⟨(some 7), (.bin .lss (.int .i64) (.t 6) (.c (.int .i64 0))), none, 0⟩, ⟨(some 8), (.mv (.t 7)), none, 0⟩, ⟨(some 9), (.mv (.t 1)), (some (8, false)), 0⟩, ⟨(some 10), (.bin .gtr (.int .i64) (.t 9) (.c (.int .i64 62))), (some (8, false)), 0⟩, ⟨(some 11), (.pick (.t 8) (.c (.bool true)) (.t 10)), none, 0⟩, ⟨(some 5), (.mv (.t 11)), none, 0⟩], [6, 7, 8, 9, 10, 11], 0, false, []⟩
def r37_2 : Reg := ⟨[⟨(some 4), (.mv (.c (.int .i64 0))), none, 0⟩], [], 0, false, []⟩
def r37_3 : Reg := ⟨[⟨(some 13), (.mv (.t 1)), none, 0⟩, ⟨(some 14), (.bin .eql (.int .i64) (.t 13) (.c (.int .i64 0))), none, 0⟩, ⟨(some 12), (.mv (.t 14)), none, 0⟩], [13, 14], 0, false, []⟩
def r37_4 : Reg := ⟨[⟨(some 15), (.mv (.t 0)), none, 0⟩, ⟨(some 4), (.mv (.t 15)), none, 0⟩], [15], 0, false, []⟩
def r37_5 : Reg := ⟨[⟨(some 16), (.mv (.t 0)), none, 0⟩, ⟨(some 17), (.mv (.t 1)), none, 0⟩, ⟨(some 18), (.bin .shr (.int .i64) (.t 16) (.t 17)), none, 0⟩, ⟨(some 19), (.mv (.t 0)), none, 0⟩, ⟨(some 20), (.mv (.t 1)), none, 0⟩, ⟨(some 21), (.bin .sub (.int .i64) (.t 20) (.c (.int .i64 1))), none, 0⟩, ⟨(some 22), (.bin .shr (.int .i64) (.t 19) (.t 21)), none, 0⟩, ⟨(some 23), (.bin .and (.int .i64) (.t 22) (.c (.int .i64 1))), none, 0⟩, ⟨(some 24), (.bin .add (.int .i64) (.t 18) (.t 23)), none, 0⟩, ⟨(some 4), (.mv (.t 24)), none, 0⟩], [16, 17, 18, 19, 20, 21, 22, 23, 24], 0, false, []⟩
def sf37 : SFn := { np := 2, vars := [0, 1, 4, 5, 12], body := (.seq (.reg r37_0) (.seq (.block 0 (.seq (.reg r37_1) (.cond (.t 5) (.seq (.reg r37_2) (.seq (.kill [0, 1, 5, 12]) .ret)) (.seq (.reg r37_3) (.cond (.t 12) (.seq (.reg r37_4) (.seq (.kill [0, 1, 5, 12]) .ret)) .skip))))) (.seq (.reg r37_5) (.seq (.kill [0, 1, 5, 12]) .ret)))), res := [(.tmp 4)] }
/-! calliope/gain.Right -/
def r38_0 : Reg := ⟨[⟨(some 1), (.box (.t 0)), none, 0⟩, ⟨(some 2), (.mv (.c (.bool false))), none, 1⟩], [], 1, true, []⟩
def r38_1 : Reg := ⟨[⟨(some 5), (.load (some 4) (.t 1)), none, 0⟩, ⟨(some 6), (.mv (.c (.int .i64 0))), none, 0⟩], [], 0, false, []⟩
def r38_2 : Reg := ⟨[⟨(some 7), (.bin .lss (.int .i64) (.t 6) (.c (.int .i64 4))), none, 0⟩], [], 0, false, []⟩
def r38_3 : Reg := ⟨[⟨(some 8), (.idxV 4 1 false (.t 5) (.t 6)), none, 0⟩, ⟨(some 4), (.mv (.t 8)), none, 0⟩], [8], 0, false, []⟩
def r38_4 : Reg := ⟨[⟨(some 9), (.mv (.t 4)), none, 0⟩, ⟨(some 10), (.bin .lss (.int .i64) (.t 9) (.c (.int .i64 0))), none, 0⟩, ⟨(some 11), (.mv (.t 10)), none, 0⟩, ⟨(some 12), (.mv (.t 4)), (some (11, false)), 0⟩, ⟨(some 13), (.bin .gtr (.int .i64) (.t 12) (.c (.int .i64 3))), (some (11, false)), 0⟩, ⟨(some 14), (.pick (.t 11) (.c (.bool true)) (.t 13)), none, 0⟩], [9, 10, 11, 12, 13], 0, false, []⟩
def r38_5 : Reg := ⟨[⟨(some 2), (.mv (.c (.bool false))), none, 0⟩], [], 0, false, []⟩
def r38_6 : Reg := ⟨[⟨(some 15), (.bin .add (.int .i64) (.t 6) (.c (.int .i64 1))), none, 0⟩, ⟨(some 6), (.mv (.t 15)), none, 0⟩], [15], 0, false, []⟩
def l38_7 : SC := (.seq (.seq (.reg r38_2) (.seq (.cond (.t 7) .skip (.seq (.kill [0, 1, 2, 4, 5, 6, 7, 14]) (.exit 0))) (.seq (.block 1 (.seq (.reg r38_3) (.seq (.reg r38_4) (.cond (.t 14) (.seq (.reg r38_5) (.seq (.kill [0, 1, 4, 5, 6, 7, 14]) .ret)) .skip)))) (.reg r38_6)))) (.kill [0, 1, 2, 4, 7, 14]))
def r38_8 : Reg := ⟨[⟨(some 2), (.mv (.c (.bool true))), none, 0⟩], [], 0, false, []⟩
def sf38 : SFn := { np := 1, vars := [0, 1, 2, 4, 5, 6, 7, 14], body := (.seq (.reg r38_0) (.seq (.seq (.reg r38_1) (.block 0 (.seq (.kill [0, 1, 2, 4, 7, 14]) (.loop l38_7)))) (.seq (.reg r38_8) (.seq (.kill [0, 1, 4, 5, 6, 7, 14]) .ret)))), res := [(.tmp 2)] }
/-! calliope/lift.part -/
def r39_0 : Reg := ⟨[⟨(some 4), (.mv (.c (.int .i64 0))), none, 0⟩], [], 0, false, []⟩
def r39_1 : Reg := ⟨[⟨(some 5), (.mv (.t 0)), none, 0⟩, ⟨(some 6), (.mv (.t 1)), none, 0⟩, ⟨(some 7), (.bin .mul (.int .i64) (.t 5) (.t 6)), none, 0⟩, ⟨(some 8), (.callP 37 [(.t 7), (.c (.int .i64 14))]), none, 0⟩, ⟨(some 4), (.mv (.t 8)), none, 0⟩], [5, 6, 7, 8], 0, false, []⟩
def sf39 : SFn := { np := 2, vars := [0, 1, 4], body := (.seq (.reg r39_0) (.seq (.reg r39_1) (.seq (.kill [0, 1]) .ret))), res := [(.tmp 4)] }
/-! (calliope/lap.Lap).meet -/
def r42_0 : Reg := ⟨[⟨(some 4), (.box (.t 0)), none, 0⟩], [4], 1, true, []⟩
def r42_1 : Reg := ⟨[⟨(some 9), (.mv (.t 1)), none, 0⟩, ⟨(some 10), (.nilck (.t 9)), none, 0⟩, ⟨(some 11), (.slA 16 1 (.t 10) (some (.c (.int .i64 8))) none), none, 0⟩, ⟨(some 12), (.call 45 [(.t 11)]), none, 0⟩, ⟨(some 8), (.mv (.t 12)), none, 0⟩], [9, 10, 11, 12], 0, true, []⟩
def r42_2 : Reg := ⟨[⟨(some 13), (.mv (.t 3)), none, 0⟩, ⟨(some 14), (.mv (.t 8)), none, 0⟩, ⟨(some 15), (.mv (.t 2)), none, 0⟩, ⟨(some 16), (.nilck (.t 15)), none, 0⟩, ⟨(some 17), (.slA 16 1 (.t 16) none (some (.c (.int .i64 8)))), none, 0⟩, ⟨(some 18), (.callv (.t 13) [(.t 14), (.t 17)]), none, 0⟩], [13, 14, 15, 16, 17, 18], 0, true, []⟩
def r42_3 : Reg := ⟨[⟨(some 19), (.mv (.t 1)), none, 0⟩, ⟨(some 20), (.nilck (.t 19)), none, 0⟩, ⟨(some 21), (.slA 16 1 (.t 20) (some (.c (.int .i64 8))) none), none, 0⟩, ⟨(some 22), (.mv (.t 8)), none, 0⟩, ⟨(some 23), (.call 45 [(.t 22)]), none, 0⟩, ⟨(some 24), (.copy 1 (.t 21) (.t 23)), none, 0⟩], [19, 20, 21, 22, 23, 24], 0, true, [(2, 4)]⟩
def sf42 : SFn := { np := 4, vars := [0, 1, 2, 3, 8], body := (.seq (.reg r42_0) (.seq (.reg r42_1) (.seq (.reg r42_2) (.reg r42_3)))), res := [] }
/-! (calliope/lift.Pairs).Turn -/
def r43_0 : Reg := ⟨[⟨(some 3), (.box (.t 0)), none, 0⟩], [], 1, true, []⟩
def r43_1 : Reg := ⟨[⟨(some 7), (.mv (.t 1)), none, 0⟩, ⟨(some 8), (.len .slice (.t 7)), none, 0⟩, ⟨(some 9), (.mv (.t 2)), none, 0⟩, ⟨(some 10), (.len .slice (.t 9)), none, 0⟩, ⟨(some 11), (.mx false [(.t 8), (.t 10), (.c (.int .i64 8))]), none, 0⟩, ⟨(some 12), (.mv (.c (.int .i64 0))), none, 0⟩], [7, 8, 9, 10], 0, false, []⟩
def r43_2 : Reg := ⟨[⟨(some 13), (.bin .lss (.int .i64) (.t 12) (.t 11)), none, 0⟩], [], 0, false, []⟩
def r43_3 : Reg := ⟨[⟨(some 14), (.mv (.t 12)), none, 0⟩, ⟨(some 6), (.mv (.t 14)), none, 0⟩], [14], 0, false, []⟩
def r43_4 : Reg := ⟨[⟨(some 16), (.mv (.t 1)), none, 0⟩, ⟨(some 17), (.mv (.t 6)), none, 0⟩, ⟨(some 18), (.mv (.t 2)), none, 0⟩, ⟨(some 19), (.mv (.t 6)), none, 0⟩, ⟨(some 20), (.mv (.t 1)), none, 0⟩, ⟨(some 21), (.mv (.t 6)), none, 0⟩, ⟨(some 22), (.idxS 1 (.t 20) (.t 21)), none, 0⟩, ⟨(some 23), (.load none (.t 22)), none, 0⟩, ⟨(some 24), (.mv (.t 2)), none, 0⟩, ⟨(some 25), (.mv (.t 6)), none, 0⟩, ⟨(some 26), (.idxS 1 (.t 24) (.t 25)), none, 0⟩, ⟨(some 27), (.load none (.t 26)), none, 0⟩, ⟨(some 28), (.mv (.t 6)), none, 0⟩, ⟨(some 29), (.fieldAddr 0 (.t 3)), none, 0⟩, ⟨(some 30), (.idxA 8 2 (.t 29) (.t 28)), none, 0⟩, ⟨(some 31), (.load (some 2) (.t 30)), none, 0⟩, ⟨(some 32), (.callP 28 [(.t 23), (.t 27), (.t 31)]), none, 0⟩, ⟨(some 15), (.mv (.t 32)), none, 0⟩, ⟨(some 33), (.extract (.t 15) 0), none, 0⟩, ⟨(some 34), (.extract (.t 15) 1), none, 0⟩, ⟨(some 35), (.idxS 1 (.t 16) (.t 17)), none, 0⟩, ⟨none, (.store 1 (.t 35) (.t 33)), none, 0⟩, ⟨(some 36), (.idxS 1 (.t 18) (.t 19)), none, 0⟩, ⟨none, (.store 1 (.t 36) (.t 34)), none, 0⟩], [16, 17, 18, 19, 20, 21, 22, 23, 24, 25, 26, 27, 28, 29, 30, 31, 32, 15, 33, 34, 35, 36], 0, false, []⟩
def r43_5 : Reg := ⟨[⟨(some 37), (.bin .add (.int .i64) (.t 12) (.c (.int .i64 1))), none, 0⟩, ⟨(some 12), (.mv (.t 37)), none, 0⟩], [37], 0, false, []⟩
def l43_6 : SC := (.seq (.seq (.reg r43_2) (.seq (.cond (.t 13) .skip (.seq (.kill [0, 1, 2, 3, 6, 11, 12, 13]) (.exit 0))) (.seq (.block 1 (.seq (.reg r43_3) (.reg r43_4))) (.reg r43_5)))) (.kill [0, 6, 13]))
def sf43 : SFn := { np := 3, vars := [0, 1, 2, 3, 6, 11, 12, 13], body := (.seq (.reg r43_0) (.seq (.reg r43_1) (.block 0 (.seq (.kill [0, 6, 13]) (.loop l43_6))))), res := [] }
/-! (calliope/lift.Pairs).Back -/
def r44_0 : Reg := ⟨[⟨(some 3), (.box (.t 0)), none, 0⟩], [], 1, true, []⟩
def r44_1 : Reg := ⟨[⟨(some 7), (.mv (.t 1)), none, 0⟩, ⟨(some 8), (.len .slice (.t 7)), none, 0⟩, ⟨(some 9), (.mv (.t 2)), none, 0⟩, ⟨(some 10), (.len .slice (.t 9)), none, 0⟩, ⟨(some 11), (.mx false [(.t 8), (.t 10), (.c (.int .i64 8))]), none, 0⟩, ⟨(some 12), (.mv (.c (.int .i64 0))), none, 0⟩], [7, 8, 9, 10], 0, false, []⟩
def r44_2 : Reg := ⟨[⟨(some 13), (.bin .lss (.int .i64) (.t 12) (.t 11)), none, 0⟩], [], 0, false, []⟩
def r44_3 : Reg := ⟨[⟨(some 14), (.mv (.t 12)), none, 0⟩, ⟨(some 6), (.mv (.t 14)), none, 0⟩], [14], 0, false, []⟩
def r44_4 : Reg := ⟨[⟨(some 16), (.mv (.t 1)), none, 0⟩, ⟨(some 17), (.mv (.t 6)), none, 0⟩, ⟨(some 18), (.mv (.t 2)), none, 0⟩, ⟨(some 19), (.mv (.t 6)), none, 0⟩, ⟨(some 20), (.mv (.t 1)), none, 0⟩, ⟨(some 21), (.mv (.t 6)), none, 0⟩, ⟨(some 22), (.idxS 1 (.t 20) (.t 21)), none, 0⟩, ⟨(some 23), (.load none (.t 22)), none, 0⟩, ⟨(some 24), (.mv (.t 2)), none, 0⟩, ⟨(some 25), (.mv (.t 6)), none, 0⟩, ⟨(some 26), (.idxS 1 (.t 24) (.t 25)), none, 0⟩, ⟨(some 27), (.load none (.t 26)), none, 0⟩, ⟨(some 28), (.mv (.t 6)), none, 0⟩, ⟨(some 29), (.fieldAddr 0 (.t 3)), none, 0⟩, ⟨(some 30), (.idxA 8 2 (.t 29) (.t 28)), none, 0⟩, ⟨(some 31), (.load (some 2) (.t 30)), none, 0⟩, ⟨(some 32), (.callP 36 [(.t 23), (.t 27), (.t 31)]), none, 0⟩, ⟨(some 15), (.mv (.t 32)), none, 0⟩, ⟨(some 33), (.extract (.t 15) 0), none, 0⟩, ⟨(some 34), (.extract (.t 15) 1), none, 0⟩, ⟨(some 35), (.idxS 1 (.t 16) (.t 17)), none, 0⟩, ⟨none, (.store 1 (.t 35) (.t 33)), none, 0⟩, ⟨(some 36), (.idxS 1 (.t 18) (.t 19)), none, 0⟩, ⟨none, (.store 1 (.t 36) (.t 34)), none, 0⟩], [16, 17, 18, 19, 20, 21, 22, 23, 24, 25, 26, 27, 28, 29, 30, 31, 32, 15, 33, 34, 35, 36], 0, false, []⟩
def r44_5 : Reg := ⟨[⟨(some 37), (.bin .add (.int .i64) (.t 12) (.c (.int .i64 1))), none, 0⟩, ⟨(some 12), (.mv (.t 37)), none, 0⟩], [37], 0, false, []⟩
def l44_6 : SC := (.seq (.seq (.reg r44_2) (.seq (.cond (.t 13) .skip (.seq (.kill [0, 1, 2, 3, 6, 11, 12, 13]) (.exit 0))) (.seq (.block 1 (.seq (.reg r44_3) (.reg r44_4))) (.reg r44_5)))) (.kill [0, 6, 13]))
def sf44 : SFn := { np := 3, vars := [0, 1, 2, 3, 6, 11, 12, 13], body := (.seq (.reg r44_0) (.seq (.reg r44_1) (.block 0 (.seq (.kill [0, 6, 13]) (.loop l44_6))))), res := [] }
/-! calliope/lift.Flip -/
def r45_0 : Reg := ⟨[⟨(some 2), (.mv (.c .nils)), none, 0⟩], [], 0, false, []⟩
def r45_1 : Reg := ⟨[⟨(some 6), (.mv (.t 0)), none, 0⟩, ⟨(some 7), (.len .slice (.t 6)), none, 0⟩, ⟨(some 8), (.mkslice 1 8 (.int .i64 0) (.t 7) (.t 7)), none, 0⟩, ⟨(some 3), (.mv (.t 8)), none, 1⟩], [6, 7, 8], 1, true, []⟩
def r45_2 : Reg := ⟨[⟨(some 9), (.mv (.t 0)), none, 0⟩, ⟨(some 10), (.len .slice (.t 9)), none, 0⟩, ⟨(some 11), (.mv (.c (.int .i64 0))), none, 0⟩], [], 0, false, []⟩
def r45_3 : Reg := ⟨[⟨(some 12), (.bin .lss (.int .i64) (.t 11) (.t 10)), none, 0⟩], [], 0, false, []⟩
def r45_4 : Reg := ⟨[⟨(some 13), (.mv (.t 11)), none, 0⟩, ⟨(some 14), (.idxS 1 (.t 9) (.t 11)), none, 0⟩, ⟨(some 15), (.load none (.t 14)), none, 0⟩, ⟨(some 4), (.mv (.t 13)), none, 0⟩, ⟨(some 5), (.mv (.t 15)), none, 0⟩], [13, 14, 15], 0, false, []⟩
def r45_5 : Reg := ⟨[⟨(some 16), (.mv (.t 3)), none, 0⟩, ⟨(some 17), (.mv (.t 0)), none, 0⟩, ⟨(some 18), (.len .slice (.t 17)), none, 0⟩, ⟨(some 19), (.bin .sub (.int .i64) (.t 18) (.c (.int .i64 1))), none, 0⟩, ⟨(some 20), (.mv (.t 4)), none, 0⟩, ⟨(some 21), (.bin .sub (.int .i64) (.t 19) (.t 20)), none, 0⟩, ⟨(some 22), (.mv (.t 5)), none, 0⟩, ⟨(some 23), (.idxS 1 (.t 16) (.t 21)), none, 0⟩, ⟨none, (.store 1 (.t 23) (.t 22)), none, 0⟩], [16, 17, 18, 19, 20, 21, 22, 23], 0, false, []⟩
def r45_6 : Reg := ⟨[⟨(some 24), (.bin .add (.int .i64) (.t 11) (.c (.int .i64 1))), none, 0⟩, ⟨(some 11), (.mv (.t 24)), none, 0⟩], [24], 0, false, []⟩
def l45_7 : SC := (.seq (.seq (.reg r45_3) (.seq (.cond (.t 12) .skip (.seq (.kill [0, 2, 4, 5, 9, 10, 11, 12]) (.exit 0))) (.seq (.block 1 (.seq (.reg r45_4) (.reg r45_5))) (.reg r45_6)))) (.kill [2, 4, 5, 12]))
def r45_8 : Reg := ⟨[⟨(some 25), (.mv (.t 3)), none, 0⟩, ⟨(some 2), (.mv (.t 25)), none, 0⟩], [25], 0, false, []⟩
def sf45 : SFn := { np := 1, vars := [0, 2, 3, 4, 5, 9, 10, 11, 12], body := (.seq (.reg r45_0) (.seq (.reg r45_1) (.seq (.seq (.reg r45_2) (.block 0 (.seq (.kill [2, 4, 5, 12]) (.loop l45_7)))) (.seq (.reg r45_8) (.seq (.kill [0, 3, 4, 5, 9, 10, 11, 12]) .ret))))), res := [(.tmp 2)] }
/-! (calliope/net.Net).Forward -/
def sf17 : SFn := { np := 0, vars := [], body := .skip, res := [], ext := some (netG 28 rsF) }
theorem k17 : callable Try.prog 17 = true := by kernel_rfl
/-! (calliope/net.Net).Inverse -/
def sf25 : SFn := { np := 0, vars := [], body := .skip, res := [], ext := some (netG 36 rsI) }
theorem k25 : callable Try.prog 25 = true := by kernel_rfl
theorem c3 : cFn Try.prog 3 = some sf3 := by kernel_rfl
theorem k3 : callable Try.prog 3 = true := by kernel_rfl
theorem p3 : ∀ F, Try.prog.funcs[3]? = some F → F.params.size ≤ F.ntmps := fun F h => by rw [Try.func3] at h; cases h; exact of_decide_eq_true (by kernel_rfl)
theorem c4 : cFn Try.prog 4 = some sf4 := by kernel_rfl
theorem k4 : callable Try.prog 4 = true := by kernel_rfl
theorem p4 : ∀ F, Try.prog.funcs[4]? = some F → F.params.size ≤ F.ntmps := fun F h => by rw [Try.func4] at h; cases h; exact of_decide_eq_true (by kernel_rfl)
theorem c5 : cFn Try.prog 5 = some sf5 := by kernel_rfl
theorem k5 : callable Try.prog 5 = true := by kernel_rfl
theorem p5 : ∀ F, Try.prog.funcs[5]? = some F → F.params.size ≤ F.ntmps := fun F h => by rw [Try.func5] at h; cases h; exact of_decide_eq_true (by kernel_rfl)
theorem c6 : cFn Try.prog 6 = some sf6 := by kernel_rfl
theorem k6 : callable Try.prog 6 = true := by kernel_rfl
theorem p6 : ∀ F, Try.prog.funcs[6]? = some F → F.params.size ≤ F.ntmps := fun F h => by rw [Try.func6] at h; cases h; exact of_decide_eq_true (by kernel_rfl)
theorem c7 : cFn Try.prog 7 = some sf7 := by kernel_rfl
theorem k7 : callable Try.prog 7 = true := by kernel_rfl
theorem p7 : ∀ F, Try.prog.funcs[7]? = some F → F.params.size ≤ F.ntmps := fun F h => by rw [Try.func7] at h; cases h; exact of_decide_eq_true (by kernel_rfl)
theorem c8 : cFn Try.prog 8 = some sf8 := by kernel_rfl
theorem k8 : callable Try.prog 8 = true := by kernel_rfl
theorem p8 : ∀ F, Try.prog.funcs[8]? = some F → F.params.size ≤ F.ntmps := fun F h => by rw [Try.func8] at h; cases h; exact of_decide_eq_true (by kernel_rfl)
theorem c9 : cFn Try.prog 9 = some sf9 := by kernel_rfl
theorem k9 : callable Try.prog 9 = true := by kernel_rfl
theorem p9 : ∀ F, Try.prog.funcs[9]? = some F → F.params.size ≤ F.ntmps := fun F h => by rw [Try.func9] at h; cases h; exact of_decide_eq_true (by kernel_rfl)
theorem c10 : cFn Try.prog 10 = some sf10 := by kernel_rfl
theorem k10 : callable Try.prog 10 = true := by kernel_rfl
theorem p10 : ∀ F, Try.prog.funcs[10]? = some F → F.params.size ≤ F.ntmps := fun F h => by rw [Try.func10] at h; cases h; exact of_decide_eq_true (by kernel_rfl)
theorem c11 : cFn Try.prog 11 = some sf11 := by kernel_rfl
theorem k11 : callable Try.prog 11 = true := by kernel_rfl
theorem p11 : ∀ F, Try.prog.funcs[11]? = some F → F.params.size ≤ F.ntmps := fun F h => by rw [Try.func11] at h; cases h; exact of_decide_eq_true (by kernel_rfl)
theorem c12 : cFn Try.prog 12 = some sf12 := by kernel_rfl
theorem k12 : callable Try.prog 12 = true := by kernel_rfl
theorem p12 : ∀ F, Try.prog.funcs[12]? = some F → F.params.size ≤ F.ntmps := fun F h => by rw [Try.func12] at h; cases h; exact of_decide_eq_true (by kernel_rfl)
theorem c13 : cFn Try.prog 13 = some sf13 := by kernel_rfl
theorem k13 : callable Try.prog 13 = true := by kernel_rfl
theorem p13 : ∀ F, Try.prog.funcs[13]? = some F → F.params.size ≤ F.ntmps := fun F h => by rw [Try.func13] at h; cases h; exact of_decide_eq_true (by kernel_rfl)
theorem c14 : cFn Try.prog 14 = some sf14 := by kernel_rfl
theorem k14 : callable Try.prog 14 = true := by kernel_rfl
theorem p14 : ∀ F, Try.prog.funcs[14]? = some F → F.params.size ≤ F.ntmps := fun F h => by rw [Try.func14] at h; cases h; exact of_decide_eq_true (by kernel_rfl)
theorem c15 : cFn Try.prog 15 = some sf15 := by kernel_rfl
theorem k15 : callable Try.prog 15 = true := by kernel_rfl
theorem p15 : ∀ F, Try.prog.funcs[15]? = some F → F.params.size ≤ F.ntmps := fun F h => by rw [Try.func15] at h; cases h; exact of_decide_eq_true (by kernel_rfl)
theorem c16 : cFn Try.prog 16 = some sf16 := by kernel_rfl
theorem k16 : callable Try.prog 16 = true := by kernel_rfl
theorem p16 : ∀ F, Try.prog.funcs[16]? = some F → F.params.size ≤ F.ntmps := fun F h => by rw [Try.func16] at h; cases h; exact of_decide_eq_true (by kernel_rfl)
theorem c18 : cFn Try.prog 18 = some sf18 := by kernel_rfl
theorem k18 : callable Try.prog 18 = true := by kernel_rfl
theorem p18 : ∀ F, Try.prog.funcs[18]? = some F → F.params.size ≤ F.ntmps := fun F h => by rw [Try.func18] at h; cases h; exact of_decide_eq_true (by kernel_rfl)
theorem c19 : cFn Try.prog 19 = some sf19 := by kernel_rfl
theorem k19 : callable Try.prog 19 = true := by kernel_rfl
theorem p19 : ∀ F, Try.prog.funcs[19]? = some F → F.params.size ≤ F.ntmps := fun F h => by rw [Try.func19] at h; cases h; exact of_decide_eq_true (by kernel_rfl)
theorem c20 : cFn Try.prog 20 = some sf20 := by kernel_rfl
theorem k20 : callable Try.prog 20 = true := by kernel_rfl
theorem p20 : ∀ F, Try.prog.funcs[20]? = some F → F.params.size ≤ F.ntmps := fun F h => by rw [Try.func20] at h; cases h; exact of_decide_eq_true (by kernel_rfl)
theorem c21 : cFn Try.prog 21 = some sf21 := by kernel_rfl
theorem k21 : callable Try.prog 21 = true := by kernel_rfl
theorem p21 : ∀ F, Try.prog.funcs[21]? = some F → F.params.size ≤ F.ntmps := fun F h => by rw [Try.func21] at h; cases h; exact of_decide_eq_true (by kernel_rfl)
theorem c22 : cFn Try.prog 22 = some sf22 := by kernel_rfl
theorem k22 : callable Try.prog 22 = true := by kernel_rfl
theorem p22 : ∀ F, Try.prog.funcs[22]? = some F → F.params.size ≤ F.ntmps := fun F h => by rw [Try.func22] at h; cases h; exact of_decide_eq_true (by kernel_rfl)
theorem c23 : cFn Try.prog 23 = some sf23 := by kernel_rfl
theorem k23 : callable Try.prog 23 = true := by kernel_rfl
theorem p23 : ∀ F, Try.prog.funcs[23]? = some F → F.params.size ≤ F.ntmps := fun F h => by rw [Try.func23] at h; cases h; exact of_decide_eq_true (by kernel_rfl)
theorem c24 : cFn Try.prog 24 = some sf24 := by kernel_rfl
theorem k24 : callable Try.prog 24 = true := by kernel_rfl
theorem p24 : ∀ F, Try.prog.funcs[24]? = some F → F.params.size ≤ F.ntmps := fun F h => by rw [Try.func24] at h; cases h; exact of_decide_eq_true (by kernel_rfl)
theorem c26 : cFn Try.prog 26 = some sf26 := by kernel_rfl
theorem k26 : callable Try.prog 26 = true := by kernel_rfl
theorem p26 : ∀ F, Try.prog.funcs[26]? = some F → F.params.size ≤ F.ntmps := fun F h => by rw [Try.func26] at h; cases h; exact of_decide_eq_true (by kernel_rfl)
theorem c27 : cFn Try.prog 27 = some sf27 := by kernel_rfl
theorem k27 : callable Try.prog 27 = true := by kernel_rfl
theorem p27 : ∀ F, Try.prog.funcs[27]? = some F → F.params.size ≤ F.ntmps := fun F h => by rw [Try.func27] at h; cases h; exact of_decide_eq_true (by kernel_rfl)
theorem c28 : cFn Try.prog 28 = some sf28 := by kernel_rfl
theorem k28 : callable Try.prog 28 = true := by kernel_rfl
theorem p28 : ∀ F, Try.prog.funcs[28]? = some F → F.params.size ≤ F.ntmps := fun F h => by rw [Try.func28] at h; cases h; exact of_decide_eq_true (by kernel_rfl)
theorem c29 : cFn Try.prog 29 = some sf29 := by kernel_rfl
theorem k29 : callable Try.prog 29 = true := by kernel_rfl
theorem p29 : ∀ F, Try.prog.funcs[29]? = some F → F.params.size ≤ F.ntmps := fun F h => by rw [Try.func29] at h; cases h; exact of_decide_eq_true (by kernel_rfl)
theorem c30 : cFn Try.prog 30 = some sf30 := by kernel_rfl
theorem k30 : callable Try.prog 30 = true := by kernel_rfl
theorem p30 : ∀ F, Try.prog.funcs[30]? = some F → F.params.size ≤ F.ntmps := fun F h => by rw [Try.func30] at h; cases h; exact of_decide_eq_true (by kernel_rfl)
theorem c32 : cFn Try.prog 32 = some sf32 := by kernel_rfl
theorem k32 : callable Try.prog 32 = true := by kernel_rfl
theorem p32 : ∀ F, Try.prog.funcs[32]? = some F → F.params.size ≤ F.ntmps := fun F h => by rw [Try.func32] at h; cases h; exact of_decide_eq_true (by kernel_rfl)
theorem c33 : cFn Try.prog 33 = some sf33 := by kernel_rfl
theorem k33 : callable Try.prog 33 = true := by kernel_rfl
theorem p33 : ∀ F, Try.prog.funcs[33]? = some F → F.params.size ≤ F.ntmps := fun F h => by rw [Try.func33] at h; cases h; exact of_decide_eq_true (by kernel_rfl)
theorem c34 : cFn Try.prog 34 = some sf34 := by kernel_rfl
theorem k34 : callable Try.prog 34 = true := by kernel_rfl
theorem p34 : ∀ F, Try.prog.funcs[34]? = some F → F.params.size ≤ F.ntmps := fun F h => by rw [Try.func34] at h; cases h; exact of_decide_eq_true (by kernel_rfl)
theorem c35 : cFn Try.prog 35 = some sf35 := by kernel_rfl
theorem k35 : callable Try.prog 35 = true := by kernel_rfl
theorem p35 : ∀ F, Try.prog.funcs[35]? = some F → F.params.size ≤ F.ntmps := fun F h => by rw [Try.func35] at h; cases h; exact of_decide_eq_true (by kernel_rfl)
theorem c36 : cFn Try.prog 36 = some sf36 := by kernel_rfl
theorem k36 : callable Try.prog 36 = true := by kernel_rfl
theorem p36 : ∀ F, Try.prog.funcs[36]? = some F → F.params.size ≤ F.ntmps := fun F h => by rw [Try.func36] at h; cases h; exact of_decide_eq_true (by kernel_rfl)
theorem c37 : cFn Try.prog 37 = some sf37 := by kernel_rfl
theorem k37 : callable Try.prog 37 = true := by kernel_rfl
theorem p37 : ∀ F, Try.prog.funcs[37]? = some F → F.params.size ≤ F.ntmps := fun F h => by rw [Try.func37] at h; cases h; exact of_decide_eq_true (by kernel_rfl)
theorem c38 : cFn Try.prog 38 = some sf38 := by kernel_rfl
theorem k38 : callable Try.prog 38 = true := by kernel_rfl
theorem p38 : ∀ F, Try.prog.funcs[38]? = some F → F.params.size ≤ F.ntmps := fun F h => by rw [Try.func38] at h; cases h; exact of_decide_eq_true (by kernel_rfl)
theorem c39 : cFn Try.prog 39 = some sf39 := by kernel_rfl
theorem k39 : callable Try.prog 39 = true := by kernel_rfl
theorem p39 : ∀ F, Try.prog.funcs[39]? = some F → F.params.size ≤ F.ntmps := fun F h => by rw [Try.func39] at h; cases h; exact of_decide_eq_true (by kernel_rfl)
theorem c42 : cFn Try.prog 42 = some sf42 := by kernel_rfl
theorem k42 : callable Try.prog 42 = true := by kernel_rfl
theorem p42 : ∀ F, Try.prog.funcs[42]? = some F → F.params.size ≤ F.ntmps := fun F h => by rw [Try.func42] at h; cases h; exact of_decide_eq_true (by kernel_rfl)
theorem c43 : cFn Try.prog 43 = some sf43 := by kernel_rfl
theorem k43 : callable Try.prog 43 = true := by kernel_rfl
theorem p43 : ∀ F, Try.prog.funcs[43]? = some F → F.params.size ≤ F.ntmps := fun F h => by rw [Try.func43] at h; cases h; exact of_decide_eq_true (by kernel_rfl)
theorem c44 : cFn Try.prog 44 = some sf44 := by kernel_rfl
theorem k44 : callable Try.prog 44 = true := by kernel_rfl
theorem p44 : ∀ F, Try.prog.funcs[44]? = some F → F.params.size ≤ F.ntmps := fun F h => by rw [Try.func44] at h; cases h; exact of_decide_eq_true (by kernel_rfl)
theorem c45 : cFn Try.prog 45 = some sf45 := by kernel_rfl
theorem k45 : callable Try.prog 45 = true := by kernel_rfl
theorem p45 : ∀ F, Try.prog.funcs[45]? = some F → F.params.size ≤ F.ntmps := fun F h => by rw [Try.func45] at h; cases h; exact of_decide_eq_true (by kernel_rfl)
def tab : FuncId → Option SFn := tabL [(3, sf3), (4, sf4), (5, sf5), (6, sf6), (7, sf7), (8, sf8), (9, sf9), (10, sf10), (11, sf11), (12, sf12), (13, sf13), (14, sf14), (15, sf15), (16, sf16), (18, sf18), (19, sf19), (20, sf20), (21, sf21), (22, sf22), (23, sf23), (24, sf24), (26, sf26), (27, sf27), (28, sf28), (29, sf29), (30, sf30), (32, sf32), (33, sf33), (34, sf34), (35, sf35), (36, sf36), (37, sf37), (38, sf38), (39, sf39), (42, sf42), (43, sf43), (44, sf44), (45, sf45), (17, sf17), (25, sf25)]
theorem tabOk : TabOk Try.prog tab :=
  tabOk_cons c3 k3 p3 (tabOk_cons c4 k4 p4 (tabOk_cons c5 k5 p5 (tabOk_cons c6 k6 p6 (tabOk_cons c7 k7 p7 (tabOk_cons c8 k8 p8 (tabOk_cons c9 k9 p9 (tabOk_cons c10 k10 p10 (tabOk_cons c11 k11 p11 (tabOk_cons c12 k12 p12 (tabOk_cons c13 k13 p13 (tabOk_cons c14 k14 p14 (tabOk_cons c15 k15 p15 (tabOk_cons c16 k16 p16 (tabOk_cons c18 k18 p18 (tabOk_cons c19 k19 p19 (tabOk_cons c20 k20 p20 (tabOk_cons c21 k21 p21 (tabOk_cons c22 k22 p22 (tabOk_cons c23 k23 p23 (tabOk_cons c24 k24 p24 (tabOk_cons c26 k26 p26 (tabOk_cons c27 k27 p27 (tabOk_cons c28 k28 p28 (tabOk_cons c29 k29 p29 (tabOk_cons c30 k30 p30 (tabOk_cons c32 k32 p32 (tabOk_cons c33 k33 p33 (tabOk_cons c34 k34 p34 (tabOk_cons c35 k35 p35 (tabOk_cons c36 k36 p36 (tabOk_cons c37 k37 p37 (tabOk_cons c38 k38 p38 (tabOk_cons c39 k39 p39 (tabOk_cons c42 k42 p42 (tabOk_cons c43 k43 p43 (tabOk_cons c44 k44 p44 (tabOk_cons c45 k45 p45 (tabOk_ext rfl k17 extF (tabOk_ext rfl k25 extI (tabOk_nil _))))))))))))))))))))))))))))))))))))))))
theorem t3 : tab 3 = some sf3 := rfl
theorem t4 : tab 4 = some sf4 := rfl
theorem t5 : tab 5 = some sf5 := rfl
theorem t6 : tab 6 = some sf6 := rfl
theorem t7 : tab 7 = some sf7 := rfl
theorem t8 : tab 8 = some sf8 := rfl
theorem t9 : tab 9 = some sf9 := rfl
theorem t10 : tab 10 = some sf10 := rfl
theorem t11 : tab 11 = some sf11 := rfl
theorem t12 : tab 12 = some sf12 := rfl
theorem t13 : tab 13 = some sf13 := rfl
theorem t14 : tab 14 = some sf14 := rfl
theorem t15 : tab 15 = some sf15 := rfl
theorem t16 : tab 16 = some sf16 := rfl
theorem t18 : tab 18 = some sf18 := rfl
theorem t19 : tab 19 = some sf19 := rfl
theorem t20 : tab 20 = some sf20 := rfl
theorem t21 : tab 21 = some sf21 := rfl
theorem t22 : tab 22 = some sf22 := rfl
theorem t23 : tab 23 = some sf23 := rfl
theorem t24 : tab 24 = some sf24 := rfl
theorem t26 : tab 26 = some sf26 := rfl
theorem t27 : tab 27 = some sf27 := rfl
theorem t28 : tab 28 = some sf28 := rfl
theorem t29 : tab 29 = some sf29 := rfl
theorem t30 : tab 30 = some sf30 := rfl
theorem t32 : tab 32 = some sf32 := rfl
theorem t33 : tab 33 = some sf33 := rfl
theorem t34 : tab 34 = some sf34 := rfl
theorem t35 : tab 35 = some sf35 := rfl
theorem t36 : tab 36 = some sf36 := rfl
theorem t37 : tab 37 = some sf37 := rfl
theorem t38 : tab 38 = some sf38 := rfl
theorem t39 : tab 39 = some sf39 := rfl
theorem t42 : tab 42 = some sf42 := rfl
theorem t43 : tab 43 = some sf43 := rfl
theorem t44 : tab 44 = some sf44 := rfl
theorem t45 : tab 45 = some sf45 := rfl
theorem t17 : tab 17 = some sf17 := rfl
theorem t25 : tab 25 = some sf25 := rfl
end Go.Proofs.Ytmmfgbifbbiihaa
