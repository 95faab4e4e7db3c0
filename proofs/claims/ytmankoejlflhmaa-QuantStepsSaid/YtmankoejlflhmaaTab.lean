/-
  The abstract forms of this seat's functions, by program, and that they are the ones that the model's code has. Conditions: none.
-/
import Derived.Test.YtmankoejlflhmaaRows
import Derived.Test.YtmankoejlflhmaaSxP
namespace Go.Proofs.Ytmankoejlflhmaa
open Go Go.Sx
set_option maxRecDepth 100000
/-! calliope/calliopelaw09.QuantValues -/
def r3_0 : Reg := ⟨[⟨(some 2), (.box (.t 0)), none, 0⟩, ⟨(some 3), (.box (.t 1)), none, 1⟩, ⟨(some 4), (.mv (.c (.bool false))), none, 2⟩], [], 2, true, []⟩
def r3_1 : Reg := ⟨[⟨(some 5), (.mv (.c (.int .i64 0))), none, 0⟩], [], 0, false, []⟩
def r3_2 : Reg := ⟨[⟨(some 9), (.mv (.t 5)), none, 0⟩, ⟨(some 10), (.bin .lss (.int .i64) (.t 9) (.c (.int .i64 16))), none, 0⟩], [9], 0, false, []⟩
def r3_3 : Reg := ⟨[⟨(some 13), (.mv (.t 5)), none, 0⟩, ⟨(some 14), (.idxA 16 1 (.t 2) (.t 13)), none, 0⟩, ⟨(some 15), (.load none (.t 14)), none, 0⟩, ⟨(some 16), (.bin .lss (.int .i64) (.t 15) (.c (.int .i64 (-4294967296)))), none, 0⟩, ⟨(some 17), (.mv (.t 16)), none, 0⟩, ⟨(some 18), (.mv (.t 5)), (some (17, false)), 0⟩, ⟨(some 19), (.idxA 16 1 (.t 2) (.t 18)), (some (17, false)), 0⟩, ⟨(some 20), (.load none (.t 19)), (some (17, false)), 0⟩, ⟨(some 21), (.bin .gtr (.int .i64) (.t 20) (.c (.int .i64 4294967296))), (some (17, false)), 0⟩, ⟨(some 22), (.pick (.t 17) (.c (.bool true)) (.t 21)), none, 0⟩], [13, 14, 15, 16, 17, 18, 19, 20, 21], 0, false, []⟩
def r3_4 : Reg := ⟨[⟨(some 23), (.callP 7 []), none, 0⟩, ⟨(some 4), (.mv (.t 23)), none, 0⟩], [23], 0, false, []⟩
def r3_5 : Reg := ⟨[⟨(some 11), (.mv (.t 5)), none, 0⟩, ⟨(some 12), (.bin .add (.int .i64) (.t 11) (.c (.int .i64 1))), none, 0⟩, ⟨(some 5), (.mv (.t 12)), none, 0⟩], [11, 12], 0, false, []⟩
def l3_6 : SC := (.seq (.seq (.seq (.reg r3_2) (.cond (.t 10) .skip (.seq (.kill [0, 1, 4, 5, 6, 7, 8, 10, 22, 28, 32, 46]) (.exit 0)))) (.seq (.block 1 (.seq (.reg r3_3) (.cond (.t 22) (.seq (.reg r3_4) (.seq (.kill [0, 1, 2, 3, 5, 6, 7, 8, 10, 22, 28, 32, 46]) .ret)) .skip))) (.reg r3_5))) (.kill [0, 1, 4, 6, 7, 8, 10, 22, 28, 32, 46]))
def r3_7 : Reg := ⟨[⟨(some 24), (.load (some 16) (.t 2)), none, 0⟩, ⟨(some 25), (.load (some 4) (.t 3)), none, 0⟩, ⟨(some 26), (.callP 8 [(.t 24), (.t 25)]), none, 0⟩, ⟨(some 6), (.alloc (.ints .i64 [0, 0, 0, 0, 0, 0, 0, 0, 0, 0, 0, 0, 0, 0, 0, 0])), none, 0⟩, ⟨none, (.store 16 (.t 6) (.t 26)), none, 1⟩], [24, 25, 26], 1, true, []⟩
def r3_8 : Reg := ⟨[⟨(some 7), (.mv (.c (.int .i64 0))), none, 0⟩], [], 0, false, []⟩
def r3_9 : Reg := ⟨[⟨(some 27), (.mv (.t 7)), none, 0⟩, ⟨(some 28), (.bin .lss (.int .i64) (.t 27) (.c (.int .i64 16))), none, 0⟩], [27], 0, false, []⟩
def r3_10 : Reg := ⟨[⟨(some 8), (.mv (.c (.int .i64 0))), none, 0⟩], [], 0, false, []⟩
def r3_11 : Reg := ⟨[⟨(some 31), (.load (some 4) (.t 3)), none, 0⟩, ⟨(some 32), (.callP 9 [(.t 31)]), none, 0⟩], [31], 0, false, []⟩
def r3_12 : Reg := ⟨[⟨(some 33), (.mv (.t 7)), none, 0⟩, ⟨(some 34), (.idxA 16 1 (.t 2) (.t 33)), none, 0⟩, ⟨(some 35), (.load none (.t 34)), none, 0⟩, ⟨(some 36), (.mv (.t 7)), none, 0⟩, ⟨(some 37), (.bin .quo (.int .i64) (.t 36) (.c (.int .i64 4))), none, 0⟩, ⟨(some 38), (.idxA 4 1 (.t 3) (.t 37)), none, 0⟩, ⟨(some 39), (.load none (.t 38)), none, 0⟩, ⟨(some 40), (.callP 10 [(.t 39)]), none, 0⟩, ⟨(some 41), (.bin .mul (.int .i64) (.t 35) (.t 40)), none, 0⟩, ⟨(some 8), (.mv (.t 41)), none, 0⟩], [33, 34, 35, 36, 37, 38, 39, 40, 41], 0, false, []⟩
def r3_13 : Reg := ⟨[⟨(some 42), (.mv (.t 7)), none, 0⟩, ⟨(some 43), (.idxA 16 1 (.t 6) (.t 42)), none, 0⟩, ⟨(some 44), (.load none (.t 43)), none, 0⟩, ⟨(some 45), (.mv (.t 8)), none, 0⟩, ⟨(some 46), (.bin .neq (.int .i64) (.t 44) (.t 45)), none, 0⟩], [42, 43, 44, 45], 0, false, []⟩
def r3_14 : Reg := ⟨[⟨(some 4), (.mv (.c (.bool false))), none, 0⟩], [], 0, false, []⟩
def r3_15 : Reg := ⟨[⟨(some 29), (.mv (.t 7)), none, 0⟩, ⟨(some 30), (.bin .add (.int .i64) (.t 29) (.c (.int .i64 1))), none, 0⟩, ⟨(some 7), (.mv (.t 30)), none, 0⟩], [29, 30], 0, false, []⟩
def l3_16 : SC := (.seq (.seq (.seq (.reg r3_9) (.cond (.t 28) .skip (.seq (.kill [0, 1, 2, 3, 4, 5, 6, 7, 8, 10, 22, 28, 32, 46]) (.exit 2)))) (.seq (.block 3 (.seq (.reg r3_10) (.seq (.seq (.reg r3_11) (.cond (.t 32) (.reg r3_12) .skip)) (.seq (.reg r3_13) (.cond (.t 46) (.seq (.reg r3_14) (.seq (.kill [0, 1, 2, 3, 5, 6, 7, 8, 10, 22, 28, 32, 46]) .ret)) .skip))))) (.reg r3_15))) (.kill [0, 1, 4, 5, 8, 10, 22, 28, 32, 46]))
def r3_17 : Reg := ⟨[⟨(some 47), (.callP 7 []), none, 0⟩, ⟨(some 4), (.mv (.t 47)), none, 0⟩], [47], 0, false, []⟩
def sf3 : SFn := { np := 2, vars := [0, 1, 2, 3, 4, 5, 6, 7, 8, 10, 22, 28, 32, 46], body := (.seq (.reg r3_0) (.seq (.seq (.reg r3_1) (.block 0 (.seq (.kill [0, 1, 4, 6, 7, 8, 10, 22, 28, 32, 46]) (.loop l3_6)))) (.seq (.reg r3_7) (.seq (.seq (.reg r3_8) (.block 2 (.seq (.kill [0, 1, 4, 5, 8, 10, 22, 28, 32, 46]) (.loop l3_16)))) (.seq (.reg r3_17) (.seq (.kill [0, 1, 2, 3, 5, 6, 7, 8, 10, 22, 28, 32, 46]) .ret)))))), res := [(.tmp 4)] }
/-! calliope/calliopelaw09.QuantSteps -/
def r4_0 : Reg := ⟨[⟨(some 2), (.box (.t 0)), none, 0⟩, ⟨(some 3), (.box (.t 1)), none, 1⟩, ⟨(some 4), (.mv (.c (.bool false))), none, 2⟩], [], 2, true, []⟩
def r4_1 : Reg := ⟨[⟨(some 12), (.load (some 16) (.t 2)), none, 0⟩, ⟨(some 13), (.load (some 4) (.t 3)), none, 0⟩, ⟨(some 14), (.callP 11 [(.t 12), (.t 13)]), none, 0⟩, ⟨(some 5), (.alloc (.ints .i64 [0, 0, 0, 0, 0, 0, 0, 0, 0, 0, 0, 0, 0, 0, 0, 0])), none, 0⟩, ⟨none, (.store 16 (.t 5) (.t 14)), none, 1⟩], [12, 13, 14], 1, true, []⟩
def r4_2 : Reg := ⟨[⟨(some 15), (.load (some 16) (.t 5)), none, 0⟩, ⟨(some 16), (.load (some 4) (.t 3)), none, 0⟩, ⟨(some 17), (.callP 8 [(.t 15), (.t 16)]), none, 0⟩, ⟨(some 6), (.alloc (.ints .i64 [0, 0, 0, 0, 0, 0, 0, 0, 0, 0, 0, 0, 0, 0, 0, 0])), none, 0⟩, ⟨none, (.store 16 (.t 6) (.t 17)), none, 1⟩], [15, 16, 17], 1, true, []⟩
def r4_3 : Reg := ⟨[⟨(some 18), (.load (some 4) (.t 3)), none, 0⟩, ⟨(some 19), (.callP 12 [(.t 18)]), none, 0⟩, ⟨(some 20), (.load (some 4) (.t 3)), none, 0⟩, ⟨(some 21), (.callP 9 [(.t 20)]), none, 0⟩, ⟨(some 22), (.bin .neq .bool (.t 19) (.t 21)), none, 0⟩], [18, 19, 20, 21], 0, false, []⟩
def r4_4 : Reg := ⟨[⟨(some 4), (.mv (.c (.bool false))), none, 0⟩], [], 0, false, []⟩
def r4_5 : Reg := ⟨[⟨(some 23), (.load (some 4) (.t 3)), none, 0⟩, ⟨(some 24), (.callP 9 [(.t 23)]), none, 0⟩, ⟨(some 25), (.un .not (.t 24)), none, 0⟩], [23, 24], 0, false, []⟩
def r4_6 : Reg := ⟨[⟨(some 26), (.load (some 16) (.t 5)), none, 0⟩, ⟨(some 27), (.build (.ints .i64 [0, 0, 0, 0, 0, 0, 0, 0, 0, 0, 0, 0, 0, 0, 0, 0]) []), none, 0⟩, ⟨(some 28), (.bin .eql (.cells [(.int .i64), (.int .i64), (.int .i64), (.int .i64), (.int .i64), (.int .i64), (.int .i64), (.int .i64), (.int .i64), (.int .i64), (.int .i64), (.int .i64), (.int .i64), (.int .i64), (.int .i64), (.int .i64)]) (.t 26) (.t 27)), none, 0⟩, ⟨(some 29), (.mv (.t 28)), none, 0⟩, ⟨(some 30), (.load (some 16) (.t 6)), (some (29, true)), 0⟩, ⟨(some 31), (.build (.ints .i64 [0, 0, 0, 0, 0, 0, 0, 0, 0, 0, 0, 0, 0, 0, 0, 0]) []), (some (29, true)), 0⟩, ⟨(some 32), (.bin .eql (.cells [(.int .i64), (.int .i64), (.int .i64), (.int .i64), (.int .i64), (.int .i64), (.int .i64), (.int .i64), (.int .i64), (.int .i64), (.int .i64), (.int .i64), (.int .i64), (.int .i64), (.int .i64), (.int .i64)]) (.t 30) (.t 31)), (some (29, true)), 0⟩, ⟨(some 33), (.pick (.t 29) (.t 32) (.c (.bool false))), none, 0⟩, ⟨(some 34), (.mv (.t 33)), none, 0⟩, ⟨(some 35), (.callP 7 []), (some (34, true)), 0⟩, ⟨(some 36), (.pick (.t 34) (.t 35) (.c (.bool false))), none, 0⟩, ⟨(some 4), (.mv (.t 36)), none, 0⟩], [26, 27, 28, 29, 30, 31, 32, 33, 34, 35, 36], 0, false, []⟩
def r4_7 : Reg := ⟨[⟨(some 37), (.load (some 16) (.t 2)), none, 0⟩, ⟨(some 38), (.callP 13 [(.t 37)]), none, 0⟩, ⟨(some 39), (.un .not (.t 38)), none, 0⟩], [37, 38], 0, false, []⟩
def r4_8 : Reg := ⟨[⟨(some 40), (.callP 7 []), none, 0⟩, ⟨(some 4), (.mv (.t 40)), none, 0⟩], [40], 0, false, []⟩
def r4_9 : Reg := ⟨[⟨(some 7), (.mv (.c (.int .i64 0))), none, 0⟩], [], 0, false, []⟩
def r4_10 : Reg := ⟨[⟨(some 41), (.mv (.t 7)), none, 0⟩, ⟨(some 42), (.bin .lss (.int .i64) (.t 41) (.c (.int .i64 16))), none, 0⟩], [41], 0, false, []⟩
def r4_11 : Reg := ⟨[⟨(some 45), (.mv (.t 7)), none, 0⟩, ⟨(some 46), (.bin .quo (.int .i64) (.t 45) (.c (.int .i64 4))), none, 0⟩, ⟨(some 47), (.idxA 4 1 (.t 3) (.t 46)), none, 0⟩, ⟨(some 48), (.load none (.t 47)), none, 0⟩, ⟨(some 49), (.callP 10 [(.t 48)]), none, 0⟩, ⟨(some 8), (.mv (.t 49)), none, 0⟩], [45, 46, 47, 48, 49], 0, false, []⟩
def r4_12 : Reg := ⟨[⟨(some 50), (.mv (.t 7)), none, 0⟩, ⟨(some 51), (.idxA 16 1 (.t 2) (.t 50)), none, 0⟩, ⟨(some 52), (.load none (.t 51)), none, 0⟩, ⟨(some 9), (.mv (.t 52)), none, 0⟩], [50, 51, 52], 0, false, []⟩
def r4_13 : Reg := ⟨[⟨(some 53), (.mv (.t 9)), none, 0⟩, ⟨(some 54), (.bin .lss (.int .i64) (.t 53) (.c (.int .i64 0))), none, 0⟩], [53], 0, false, []⟩
def r4_14 : Reg := ⟨[⟨(some 55), (.mv (.t 9)), none, 0⟩, ⟨(some 56), (.un .neg (.t 55)), none, 0⟩, ⟨(some 9), (.mv (.t 56)), none, 0⟩], [55, 56], 0, false, []⟩
def r4_15 : Reg := ⟨[⟨(some 57), (.mv (.t 9)), none, 0⟩, ⟨(some 58), (.bin .mul (.int .i64) (.c (.int .i64 2)) (.t 57)), none, 0⟩, ⟨(some 59), (.mv (.t 8)), none, 0⟩, ⟨(some 60), (.bin .add (.int .i64) (.t 58) (.t 59)), none, 0⟩, ⟨(some 61), (.mv (.t 8)), none, 0⟩, ⟨(some 62), (.bin .mul (.int .i64) (.c (.int .i64 2)) (.t 61)), none, 0⟩, ⟨(some 63), (.bin .quo (.int .i64) (.t 60) (.t 62)), none, 0⟩, ⟨(some 10), (.mv (.t 63)), none, 0⟩], [57, 58, 59, 60, 61, 62, 63], 0, false, []⟩
def r4_16 : Reg := ⟨[⟨(some 64), (.mv (.t 7)), none, 0⟩, ⟨(some 65), (.idxA 16 1 (.t 2) (.t 64)), none, 0⟩, ⟨(some 66), (.load none (.t 65)), none, 0⟩, ⟨(some 67), (.bin .lss (.int .i64) (.t 66) (.c (.int .i64 0))), none, 0⟩], [64, 65, 66], 0, false, []⟩
def r4_17 : Reg := ⟨[⟨(some 68), (.mv (.t 10)), none, 0⟩, ⟨(some 69), (.un .neg (.t 68)), none, 0⟩, ⟨(some 10), (.mv (.t 69)), none, 0⟩], [68, 69], 0, false, []⟩
def r4_18 : Reg := ⟨[⟨(some 70), (.mv (.t 10)), none, 0⟩, ⟨(some 71), (.mv (.t 8)), none, 0⟩, ⟨(some 72), (.bin .mul (.int .i64) (.t 70) (.t 71)), none, 0⟩, ⟨(some 73), (.mv (.t 7)), none, 0⟩, ⟨(some 74), (.idxA 16 1 (.t 2) (.t 73)), none, 0⟩, ⟨(some 75), (.load none (.t 74)), none, 0⟩, ⟨(some 76), (.bin .sub (.int .i64) (.t 72) (.t 75)), none, 0⟩, ⟨(some 11), (.mv (.t 76)), none, 0⟩], [70, 71, 72, 73, 74, 75, 76], 0, false, []⟩
def r4_19 : Reg := ⟨[⟨(some 77), (.mv (.t 7)), none, 0⟩, ⟨(some 78), (.idxA 16 1 (.t 5) (.t 77)), none, 0⟩, ⟨(some 79), (.load none (.t 78)), none, 0⟩, ⟨(some 80), (.mv (.t 10)), none, 0⟩, ⟨(some 81), (.bin .neq (.int .i64) (.t 79) (.t 80)), none, 0⟩, ⟨(some 82), (.mv (.t 81)), none, 0⟩, ⟨(some 83), (.mv (.t 7)), (some (82, false)), 0⟩, ⟨(some 84), (.idxA 16 1 (.t 6) (.t 83)), (some (82, false)), 0⟩, ⟨(some 85), (.load none (.t 84)), (some (82, false)), 0⟩, ⟨(some 86), (.mv (.t 10)), (some (82, false)), 0⟩, ⟨(some 87), (.mv (.t 8)), (some (82, false)), 0⟩, ⟨(some 88), (.bin .mul (.int .i64) (.t 86) (.t 87)), (some (82, false)), 0⟩, ⟨(some 89), (.bin .neq (.int .i64) (.t 85) (.t 88)), (some (82, false)), 0⟩, ⟨(some 90), (.pick (.t 82) (.c (.bool true)) (.t 89)), none, 0⟩, ⟨(some 91), (.mv (.t 90)), none, 0⟩, ⟨(some 92), (.mv (.t 11)), (some (91, false)), 0⟩, ⟨(some 93), (.mv (.t 8)), (some (91, false)), 0⟩, ⟨(some 94), (.bin .quo (.int .i64) (.t 93) (.c (.int .i64 2))), (some (91, false)), 0⟩, ⟨(some 95), (.bin .gtr (.int .i64) (.t 92) (.t 94)), (some (91, false)), 0⟩, ⟨(some 96), (.pick (.t 91) (.c (.bool true)) (.t 95)), none, 0⟩, ⟨(some 97), (.mv (.t 96)), none, 0⟩, ⟨(some 98), (.mv (.t 11)), (some (97, false)), 0⟩, ⟨(some 99), (.mv (.t 8)), (some (97, false)), 0⟩, ⟨(some 100), (.bin .quo (.int .i64) (.t 99) (.c (.int .i64 2))), (some (97, false)), 0⟩, ⟨(some 101), (.un .neg (.t 100)), (some (97, false)), 0⟩, ⟨(some 102), (.bin .lss (.int .i64) (.t 98) (.t 101)), (some (97, false)), 0⟩, ⟨(some 103), (.pick (.t 97) (.c (.bool true)) (.t 102)), none, 0⟩, ⟨(some 104), (.mv (.t 103)), none, 0⟩, ⟨(some 105), (.mv (.t 7)), (some (104, false)), 0⟩, ⟨(some 106), (.bin .quo (.int .i64) (.t 105) (.c (.int .i64 4))), (some (104, false)), 0⟩, ⟨(some 107), (.idxA 4 1 (.t 3) (.t 106)), (some (104, false)), 0⟩, ⟨(some 108), (.load none (.t 107)), (some (104, false)), 0⟩, ⟨(some 109), (.callP 14 [(.t 108)]), (some (104, false)), 0⟩, ⟨(some 110), (.mv (.t 8)), (some (104, false)), 0⟩, ⟨(some 111), (.bin .quo (.int .i64) (.t 110) (.c (.int .i64 2))), (some (104, false)), 0⟩, ⟨(some 112), (.bin .neq (.int .i64) (.t 109) (.t 111)), (some (104, false)), 0⟩, ⟨(some 113), (.pick (.t 104) (.c (.bool true)) (.t 112)), none, 0⟩], [77, 78, 79, 80, 81, 82, 83, 84, 85, 86, 87, 88, 89, 90, 91, 92, 93, 94, 95, 96, 97, 98, 99, 100, 101, 102, 103, 104, 105, 106, 107, 108, 109, 110, 111, 112], 0, false, []⟩
def r4_20 : Reg := ⟨[⟨(some 4), (.mv (.c (.bool false))), none, 0⟩], [], 0, false, []⟩
def r4_21 : Reg := ⟨[⟨(some 43), (.mv (.t 7)), none, 0⟩, ⟨(some 44), (.bin .add (.int .i64) (.t 43) (.c (.int .i64 1))), none, 0⟩, ⟨(some 7), (.mv (.t 44)), none, 0⟩], [43, 44], 0, false, []⟩
def l4_22 : SC := (.seq (.seq (.seq (.reg r4_10) (.cond (.t 42) .skip (.seq (.kill [0, 1, 2, 3, 4, 5, 6, 7, 8, 9, 10, 11, 22, 25, 39, 42, 54, 67, 113]) (.exit 0)))) (.seq (.block 1 (.seq (.reg r4_11) (.seq (.reg r4_12) (.seq (.seq (.reg r4_13) (.cond (.t 54) (.reg r4_14) .skip)) (.seq (.reg r4_15) (.seq (.seq (.reg r4_16) (.cond (.t 67) (.reg r4_17) .skip)) (.seq (.reg r4_18) (.seq (.reg r4_19) (.cond (.t 113) (.seq (.reg r4_20) (.seq (.kill [0, 1, 2, 3, 5, 6, 7, 8, 9, 10, 11, 22, 25, 39, 42, 54, 67, 113]) .ret)) .skip))))))))) (.reg r4_21))) (.kill [0, 1, 4, 8, 9, 10, 11, 22, 25, 39, 42, 54, 67, 113]))
def r4_23 : Reg := ⟨[⟨(some 114), (.callP 7 []), none, 0⟩, ⟨(some 4), (.mv (.t 114)), none, 0⟩], [114], 0, false, []⟩
def sf4 : SFn := { np := 2, vars := [0, 1, 2, 3, 4, 5, 6, 7, 8, 9, 10, 11, 22, 25, 39, 42, 54, 67, 113], body := (.seq (.reg r4_0) (.seq (.reg r4_1) (.seq (.reg r4_2) (.seq (.seq (.reg r4_3) (.cond (.t 22) (.seq (.reg r4_4) (.seq (.kill [0, 1, 2, 3, 5, 6, 7, 8, 9, 10, 11, 22, 25, 39, 42, 54, 67, 113]) .ret)) .skip)) (.seq (.seq (.reg r4_5) (.cond (.t 25) (.seq (.reg r4_6) (.seq (.kill [0, 1, 2, 3, 5, 6, 7, 8, 9, 10, 11, 22, 25, 39, 42, 54, 67, 113]) .ret)) .skip)) (.seq (.seq (.reg r4_7) (.cond (.t 39) (.seq (.reg r4_8) (.seq (.kill [0, 1, 2, 3, 5, 6, 7, 8, 9, 10, 11, 22, 25, 39, 42, 54, 67, 113]) .ret)) .skip)) (.seq (.seq (.reg r4_9) (.block 0 (.seq (.kill [0, 1, 4, 8, 9, 10, 11, 22, 25, 39, 42, 54, 67, 113]) (.loop l4_22)))) (.seq (.reg r4_23) (.seq (.kill [0, 1, 2, 3, 5, 6, 7, 8, 9, 10, 11, 22, 25, 39, 42, 54, 67, 113]) .ret))))))))), res := [(.tmp 4)] }
/-! calliope/calliopelaw09.QuantWidths -/
def r5_0 : Reg := ⟨[⟨(some 1), (.box (.t 0)), none, 0⟩, ⟨(some 2), (.mv (.c (.bool false))), none, 1⟩], [], 1, true, []⟩
def r5_1 : Reg := ⟨[⟨(some 8), (.load (some 16) (.t 1)), none, 0⟩, ⟨(some 9), (.callP 15 [(.t 8)]), none, 0⟩, ⟨(some 3), (.alloc (.ints .i64 [0, 0, 0, 0])), none, 0⟩, ⟨none, (.store 4 (.t 3) (.t 9)), none, 1⟩], [8, 9], 1, true, []⟩
def r5_2 : Reg := ⟨[⟨(some 4), (.mv (.c (.int .i64 0))), none, 0⟩], [], 0, false, []⟩
def r5_3 : Reg := ⟨[⟨(some 5), (.mv (.c (.int .i64 0))), none, 0⟩], [], 0, false, []⟩
def r5_4 : Reg := ⟨[⟨(some 10), (.mv (.t 5)), none, 0⟩, ⟨(some 11), (.bin .lss (.int .i64) (.t 10) (.c (.int .i64 4))), none, 0⟩], [10], 0, false, []⟩
def r5_5 : Reg := ⟨[⟨(some 6), (.mv (.c (.int .i64 0))), none, 0⟩], [], 0, false, []⟩
def r5_6 : Reg := ⟨[⟨(some 14), (.mv (.t 5)), none, 0⟩, ⟨(some 15), (.bin .mul (.int .i64) (.c (.int .i64 4)) (.t 14)), none, 0⟩, ⟨(some 7), (.mv (.t 15)), none, 0⟩], [14, 15], 0, false, []⟩
def r5_7 : Reg := ⟨[⟨(some 16), (.mv (.t 7)), none, 0⟩, ⟨(some 17), (.mv (.t 5)), none, 0⟩, ⟨(some 18), (.bin .mul (.int .i64) (.c (.int .i64 4)) (.t 17)), none, 0⟩, ⟨(some 19), (.bin .add (.int .i64) (.t 18) (.c (.int .i64 4))), none, 0⟩, ⟨(some 20), (.bin .lss (.int .i64) (.t 16) (.t 19)), none, 0⟩], [16, 17, 18, 19], 0, false, []⟩
def r5_8 : Reg := ⟨[⟨(some 23), (.mv (.t 7)), none, 0⟩, ⟨(some 24), (.idxA 16 1 (.t 1) (.t 23)), none, 0⟩, ⟨(some 25), (.load none (.t 24)), none, 0⟩, ⟨(some 26), (.callP 16 [(.t 25)]), none, 0⟩, ⟨(some 27), (.mv (.t 6)), none, 0⟩, ⟨(some 28), (.bin .gtr (.int .i64) (.t 26) (.t 27)), none, 0⟩], [23, 24, 25, 26, 27], 0, false, []⟩
def r5_9 : Reg := ⟨[⟨(some 29), (.mv (.t 7)), none, 0⟩, ⟨(some 30), (.idxA 16 1 (.t 1) (.t 29)), none, 0⟩, ⟨(some 31), (.load none (.t 30)), none, 0⟩, ⟨(some 32), (.callP 16 [(.t 31)]), none, 0⟩, ⟨(some 6), (.mv (.t 32)), none, 0⟩], [29, 30, 31, 32], 0, false, []⟩
def r5_10 : Reg := ⟨[⟨(some 21), (.mv (.t 7)), none, 0⟩, ⟨(some 22), (.bin .add (.int .i64) (.t 21) (.c (.int .i64 1))), none, 0⟩, ⟨(some 7), (.mv (.t 22)), none, 0⟩], [21, 22], 0, false, []⟩
def l5_11 : SC := (.seq (.seq (.seq (.reg r5_7) (.cond (.t 20) .skip (.seq (.kill [0, 2, 7, 11, 20, 28, 37]) (.exit 2)))) (.seq (.block 3 (.seq (.reg r5_8) (.cond (.t 28) (.reg r5_9) .skip))) (.reg r5_10))) (.kill [0, 2, 11, 20, 28, 37]))
def r5_12 : Reg := ⟨[⟨(some 33), (.mv (.t 5)), none, 0⟩, ⟨(some 34), (.idxA 4 1 (.t 3) (.t 33)), none, 0⟩, ⟨(some 35), (.load none (.t 34)), none, 0⟩, ⟨(some 36), (.mv (.t 6)), none, 0⟩, ⟨(some 37), (.bin .neq (.int .i64) (.t 35) (.t 36)), none, 0⟩], [33, 34, 35, 36], 0, false, []⟩
def r5_13 : Reg := ⟨[⟨(some 2), (.mv (.c (.bool false))), none, 0⟩], [], 0, false, []⟩
def r5_14 : Reg := ⟨[⟨(some 38), (.mv (.t 4)), none, 0⟩, ⟨(some 39), (.mv (.t 6)), none, 0⟩, ⟨(some 40), (.bin .mul (.int .i64) (.c (.int .i64 4)) (.t 39)), none, 0⟩, ⟨(some 41), (.bin .add (.int .i64) (.t 38) (.t 40)), none, 0⟩, ⟨(some 4), (.mv (.t 41)), none, 0⟩], [38, 39, 40, 41], 0, false, []⟩
def r5_15 : Reg := ⟨[⟨(some 12), (.mv (.t 5)), none, 0⟩, ⟨(some 13), (.bin .add (.int .i64) (.t 12) (.c (.int .i64 1))), none, 0⟩, ⟨(some 5), (.mv (.t 13)), none, 0⟩], [12, 13], 0, false, []⟩
def l5_16 : SC := (.seq (.seq (.seq (.reg r5_4) (.cond (.t 11) .skip (.seq (.kill [0, 1, 2, 5, 6, 7, 11, 20, 28, 37]) (.exit 0)))) (.seq (.block 1 (.seq (.reg r5_5) (.seq (.seq (.reg r5_6) (.block 2 (.seq (.kill [0, 2, 11, 20, 28, 37]) (.loop l5_11)))) (.seq (.seq (.reg r5_12) (.cond (.t 37) (.seq (.reg r5_13) (.seq (.kill [0, 1, 3, 4, 5, 6, 7, 11, 20, 28, 37]) .ret)) .skip)) (.reg r5_14))))) (.reg r5_15))) (.kill [0, 2, 6, 7, 11, 20, 28, 37]))
def r5_17 : Reg := ⟨[⟨(some 42), (.load (some 4) (.t 3)), none, 0⟩, ⟨(some 43), (.callP 17 [(.t 42)]), none, 0⟩, ⟨(some 44), (.mv (.t 4)), none, 0⟩, ⟨(some 45), (.bin .eql (.int .i64) (.t 43) (.t 44)), none, 0⟩, ⟨(some 46), (.mv (.t 45)), none, 0⟩, ⟨(some 47), (.callP 7 []), (some (46, true)), 0⟩, ⟨(some 48), (.pick (.t 46) (.t 47) (.c (.bool false))), none, 0⟩, ⟨(some 2), (.mv (.t 48)), none, 0⟩], [42, 43, 44, 45, 46, 47, 48], 0, false, []⟩
def sf5 : SFn := { np := 1, vars := [0, 1, 2, 3, 4, 5, 6, 7, 11, 20, 28, 37], body := (.seq (.reg r5_0) (.seq (.reg r5_1) (.seq (.reg r5_2) (.seq (.seq (.reg r5_3) (.block 0 (.seq (.kill [0, 2, 6, 7, 11, 20, 28, 37]) (.loop l5_16)))) (.seq (.reg r5_17) (.seq (.kill [0, 1, 3, 4, 5, 6, 7, 11, 20, 28, 37]) .ret)))))), res := [(.tmp 2)] }
/-! calliope/calliopelaw09.QuantNoise -/
def r6_0 : Reg := ⟨[⟨(some 4), (.box (.t 0)), none, 0⟩, ⟨(some 5), (.box (.t 1)), none, 1⟩, ⟨(some 8), (.mv (.c (.bool false))), none, 2⟩], [], 2, true, []⟩
def r6_1 : Reg := ⟨[⟨(some 9), (.mv (.c (.int .i64 0))), none, 0⟩], [], 0, false, []⟩
def r6_2 : Reg := ⟨[⟨(some 14), (.mv (.t 2)), none, 0⟩, ⟨(some 15), (.bin .geq (.int .i64) (.t 14) (.c (.int .i64 0))), none, 0⟩, ⟨(some 16), (.mv (.t 15)), none, 0⟩, ⟨(some 17), (.mv (.t 2)), (some (16, true)), 0⟩, ⟨(some 18), (.bin .lss (.int .i64) (.t 17) (.c (.int .i64 16))), (some (16, true)), 0⟩, ⟨(some 19), (.pick (.t 16) (.t 18) (.c (.bool false))), none, 0⟩], [14, 15, 16, 17, 18], 0, false, []⟩
def r6_3 : Reg := ⟨[⟨(some 20), (.mv (.t 2)), none, 0⟩, ⟨(some 21), (.bin .quo (.int .i64) (.t 20) (.c (.int .i64 4))), none, 0⟩, ⟨(some 9), (.mv (.t 21)), none, 0⟩], [20, 21], 0, false, []⟩
def r6_4 : Reg := ⟨[⟨(some 10), (.mv (.c (.int .i64 0))), none, 0⟩], [], 0, false, []⟩
def r6_5 : Reg := ⟨[⟨(some 22), (.mv (.t 3)), none, 0⟩, ⟨(some 23), (.bin .geq (.int .i64) (.t 22) (.c (.int .i64 1))), none, 0⟩, ⟨(some 24), (.mv (.t 23)), none, 0⟩, ⟨(some 25), (.mv (.t 3)), (some (24, true)), 0⟩, ⟨(some 26), (.bin .leq (.int .i64) (.t 25) (.c (.int .i64 23))), (some (24, true)), 0⟩, ⟨(some 27), (.pick (.t 24) (.t 26) (.c (.bool false))), none, 0⟩], [22, 23, 24, 25, 26], 0, false, []⟩
def r6_6 : Reg := ⟨[⟨(some 28), (.mv (.t 3)), none, 0⟩, ⟨(some 29), (.callP 10 [(.t 28)]), none, 0⟩, ⟨(some 30), (.bin .quo (.int .i64) (.t 29) (.c (.int .i64 2))), none, 0⟩, ⟨(some 10), (.mv (.t 30)), none, 0⟩], [28, 29, 30], 0, false, []⟩
def r6_7 : Reg := ⟨[⟨(some 31), (.mv (.t 2)), none, 0⟩, ⟨(some 32), (.callP 18 [(.t 31)]), none, 0⟩, ⟨(some 33), (.mv (.t 9)), none, 0⟩, ⟨(some 34), (.bin .neq (.int .i64) (.t 32) (.t 33)), none, 0⟩, ⟨(some 35), (.mv (.t 34)), none, 0⟩, ⟨(some 36), (.mv (.t 3)), (some (35, false)), 0⟩, ⟨(some 37), (.callP 14 [(.t 36)]), (some (35, false)), 0⟩, ⟨(some 38), (.mv (.t 10)), (some (35, false)), 0⟩, ⟨(some 39), (.bin .neq (.int .i64) (.t 37) (.t 38)), (some (35, false)), 0⟩, ⟨(some 40), (.pick (.t 35) (.c (.bool true)) (.t 39)), none, 0⟩], [31, 32, 33, 34, 35, 36, 37, 38, 39], 0, false, []⟩
def r6_8 : Reg := ⟨[⟨(some 8), (.mv (.c (.bool false))), none, 0⟩], [], 0, false, []⟩
def r6_9 : Reg := ⟨[⟨(some 41), (.load (some 16) (.t 4)), none, 0⟩, ⟨(some 42), (.callP 13 [(.t 41)]), none, 0⟩, ⟨(some 43), (.un .not (.t 42)), none, 0⟩, ⟨(some 44), (.mv (.t 43)), none, 0⟩, ⟨(some 45), (.load (some 16) (.t 5)), (some (44, false)), 0⟩, ⟨(some 46), (.callP 13 [(.t 45)]), (some (44, false)), 0⟩, ⟨(some 47), (.un .not (.t 46)), (some (44, false)), 0⟩, ⟨(some 48), (.pick (.t 44) (.c (.bool true)) (.t 47)), none, 0⟩], [41, 42, 43, 44, 45, 46, 47], 0, false, []⟩
def r6_10 : Reg := ⟨[⟨(some 49), (.callP 7 []), none, 0⟩, ⟨(some 8), (.mv (.t 49)), none, 0⟩], [49], 0, false, []⟩
def r6_11 : Reg := ⟨[⟨(some 11), (.mv (.c (.int .i64 0))), none, 0⟩], [], 0, false, []⟩
def r6_12 : Reg := ⟨[⟨(some 12), (.mv (.c (.int .i64 0))), none, 0⟩], [], 0, false, []⟩
def r6_13 : Reg := ⟨[⟨(some 50), (.mv (.t 12)), none, 0⟩, ⟨(some 51), (.bin .lss (.int .i64) (.t 50) (.c (.int .i64 16))), none, 0⟩], [50], 0, false, []⟩
def r6_14 : Reg := ⟨[⟨(some 54), (.mv (.t 12)), none, 0⟩, ⟨(some 55), (.idxA 16 1 (.t 4) (.t 54)), none, 0⟩, ⟨(some 56), (.load none (.t 55)), none, 0⟩, ⟨(some 57), (.mv (.t 12)), none, 0⟩, ⟨(some 58), (.idxA 16 1 (.t 5) (.t 57)), none, 0⟩, ⟨(some 59), (.load none (.t 58)), none, 0⟩, ⟨(some 60), (.bin .sub (.int .i64) (.t 56) (.t 59)), none, 0⟩, ⟨(some 13), (.mv (.t 60)), none, 0⟩], [54, 55, 56, 57, 58, 59, 60], 0, false, []⟩
def r6_15 : Reg := ⟨[⟨(some 61), (.mv (.t 13)), none, 0⟩, ⟨(some 62), (.bin .lss (.int .i64) (.t 61) (.c (.int .i64 0))), none, 0⟩], [61], 0, false, []⟩
def r6_16 : Reg := ⟨[⟨(some 63), (.mv (.t 13)), none, 0⟩, ⟨(some 64), (.un .neg (.t 63)), none, 0⟩, ⟨(some 13), (.mv (.t 64)), none, 0⟩], [63, 64], 0, false, []⟩
def r6_17 : Reg := ⟨[⟨(some 65), (.mv (.t 13)), none, 0⟩, ⟨(some 66), (.mv (.t 11)), none, 0⟩, ⟨(some 67), (.bin .gtr (.int .i64) (.t 65) (.t 66)), none, 0⟩], [65, 66], 0, false, []⟩
def r6_18 : Reg := ⟨[⟨(some 68), (.mv (.t 13)), none, 0⟩, ⟨(some 11), (.mv (.t 68)), none, 0⟩], [68], 0, false, []⟩
def r6_19 : Reg := ⟨[⟨(some 52), (.mv (.t 12)), none, 0⟩, ⟨(some 53), (.bin .add (.int .i64) (.t 52) (.c (.int .i64 1))), none, 0⟩, ⟨(some 12), (.mv (.t 53)), none, 0⟩], [52, 53], 0, false, []⟩
def l6_20 : SC := (.seq (.seq (.seq (.reg r6_13) (.cond (.t 51) .skip (.seq (.kill [0, 1, 2, 3, 8, 9, 10, 12, 13, 19, 27, 40, 48, 51, 62, 67]) (.exit 0)))) (.seq (.block 1 (.seq (.reg r6_14) (.seq (.seq (.reg r6_15) (.cond (.t 62) (.reg r6_16) .skip)) (.seq (.reg r6_17) (.cond (.t 67) (.reg r6_18) .skip))))) (.reg r6_19))) (.kill [0, 1, 2, 3, 8, 9, 10, 13, 19, 27, 40, 48, 51, 62, 67]))
def r6_21 : Reg := ⟨[⟨(some 69), (.load (some 16) (.t 4)), none, 0⟩, ⟨(some 70), (.load (some 16) (.t 5)), none, 0⟩, ⟨(some 71), (.callP 19 [(.t 69), (.t 70)]), none, 0⟩, ⟨(some 72), (.mv (.t 11)), none, 0⟩, ⟨(some 73), (.bin .eql (.int .i64) (.t 71) (.t 72)), none, 0⟩, ⟨(some 74), (.mv (.t 73)), none, 0⟩, ⟨(some 75), (.callP 7 []), (some (74, true)), 0⟩, ⟨(some 76), (.pick (.t 74) (.t 75) (.c (.bool false))), none, 0⟩, ⟨(some 8), (.mv (.t 76)), none, 0⟩], [69, 70, 71, 72, 73, 74, 75, 76], 0, false, []⟩
def sf6 : SFn := { np := 4, vars := [0, 1, 2, 3, 4, 5, 8, 9, 10, 11, 12, 13, 19, 27, 40, 48, 51, 62, 67], body := (.seq (.reg r6_0) (.seq (.reg r6_1) (.seq (.seq (.reg r6_2) (.cond (.t 19) (.reg r6_3) .skip)) (.seq (.reg r6_4) (.seq (.seq (.reg r6_5) (.cond (.t 27) (.reg r6_6) .skip)) (.seq (.seq (.reg r6_7) (.cond (.t 40) (.seq (.reg r6_8) (.seq (.kill [0, 1, 2, 3, 4, 5, 9, 10, 11, 12, 13, 19, 27, 40, 48, 51, 62, 67]) .ret)) .skip)) (.seq (.seq (.reg r6_9) (.cond (.t 48) (.seq (.reg r6_10) (.seq (.kill [0, 1, 2, 3, 4, 5, 9, 10, 11, 12, 13, 19, 27, 40, 48, 51, 62, 67]) .ret)) .skip)) (.seq (.reg r6_11) (.seq (.seq (.reg r6_12) (.block 0 (.seq (.kill [0, 1, 2, 3, 8, 9, 10, 13, 19, 27, 40, 48, 51, 62, 67]) (.loop l6_20)))) (.seq (.reg r6_21) (.seq (.kill [0, 1, 2, 3, 4, 5, 9, 10, 11, 12, 13, 19, 27, 40, 48, 51, 62, 67]) .ret))))))))))), res := [(.tmp 8)] }
/-! calliope/calliopelaw09.awake -/
def r7_0 : Reg := ⟨[⟨(some 0), (.mv (.c (.bool false))), none, 0⟩], [], 0, false, []⟩
def r7_1 : Reg := ⟨[⟨(some 3), (.build (.ints .i64 [0, 0, 0, 0, 0, 0, 0, 0, 0, 0, 0, 0, 0, 0, 0, 0]) [(0, 1, (.c (.int .i64 100)))]), none, 0⟩, ⟨(some 4), (.build (.ints .i64 [0, 0, 0, 0]) [(0, 1, (.c (.int .i64 3)))]), none, 0⟩, ⟨(some 5), (.callP 11 [(.t 3), (.t 4)]), none, 0⟩, ⟨(some 1), (.alloc (.ints .i64 [0, 0, 0, 0, 0, 0, 0, 0, 0, 0, 0, 0, 0, 0, 0, 0])), none, 0⟩, ⟨none, (.store 16 (.t 1) (.t 5)), none, 1⟩], [3, 4, 5], 1, true, []⟩
def r7_2 : Reg := ⟨[⟨(some 6), (.load (some 16) (.t 1)), none, 0⟩, ⟨(some 7), (.build (.ints .i64 [0, 0, 0, 0]) [(0, 1, (.c (.int .i64 3)))]), none, 0⟩, ⟨(some 8), (.callP 8 [(.t 6), (.t 7)]), none, 0⟩, ⟨(some 2), (.alloc (.ints .i64 [0, 0, 0, 0, 0, 0, 0, 0, 0, 0, 0, 0, 0, 0, 0, 0])), none, 0⟩, ⟨none, (.store 16 (.t 2) (.t 8)), none, 1⟩], [6, 7, 8], 1, true, []⟩
def r7_3 : Reg := ⟨[⟨(some 9), (.load (some 16) (.t 1)), none, 0⟩, ⟨(some 10), (.build (.ints .i64 [0, 0, 0, 0, 0, 0, 0, 0, 0, 0, 0, 0, 0, 0, 0, 0]) [(0, 1, (.c (.int .i64 13)))]), none, 0⟩, ⟨(some 11), (.bin .eql (.cells [(.int .i64), (.int .i64), (.int .i64), (.int .i64), (.int .i64), (.int .i64), (.int .i64), (.int .i64), (.int .i64), (.int .i64), (.int .i64), (.int .i64), (.int .i64), (.int .i64), (.int .i64), (.int .i64)]) (.t 9) (.t 10)), none, 0⟩, ⟨(some 12), (.mv (.t 11)), none, 0⟩, ⟨(some 13), (.load (some 16) (.t 2)), (some (12, true)), 0⟩, ⟨(some 14), (.build (.ints .i64 [0, 0, 0, 0, 0, 0, 0, 0, 0, 0, 0, 0, 0, 0, 0, 0]) [(0, 1, (.c (.int .i64 104)))]), (some (12, true)), 0⟩, ⟨(some 15), (.bin .eql (.cells [(.int .i64), (.int .i64), (.int .i64), (.int .i64), (.int .i64), (.int .i64), (.int .i64), (.int .i64), (.int .i64), (.int .i64), (.int .i64), (.int .i64), (.int .i64), (.int .i64), (.int .i64), (.int .i64)]) (.t 13) (.t 14)), (some (12, true)), 0⟩, ⟨(some 16), (.pick (.t 12) (.t 15) (.c (.bool false))), none, 0⟩, ⟨(some 0), (.mv (.t 16)), none, 0⟩], [9, 10, 11, 12, 13, 14, 15, 16], 0, false, []⟩
def sf7 : SFn := { np := 0, vars := [0, 1, 2], body := (.seq (.reg r7_0) (.seq (.reg r7_1) (.seq (.reg r7_2) (.seq (.reg r7_3) (.seq (.kill [1, 2]) .ret))))), res := [(.tmp 0)] }
/-! calliope/quant.Values -/
def r8_0 : Reg := ⟨[⟨(some 2), (.box (.t 0)), none, 0⟩, ⟨(some 3), (.box (.t 1)), none, 1⟩, ⟨(some 4), (.alloc (.ints .i64 [0, 0, 0, 0, 0, 0, 0, 0, 0, 0, 0, 0, 0, 0, 0, 0])), none, 2⟩], [], 3, true, []⟩
def r8_1 : Reg := ⟨[⟨(some 6), (.load (some 4) (.t 3)), none, 0⟩, ⟨(some 7), (.callP 12 [(.t 6)]), none, 0⟩, ⟨(some 8), (.un .not (.t 7)), none, 0⟩], [6, 7], 0, false, []⟩
def r8_2 : Reg := ⟨[⟨(some 9), (.build (.ints .i64 [0, 0, 0, 0, 0, 0, 0, 0, 0, 0, 0, 0, 0, 0, 0, 0]) []), none, 0⟩, ⟨none, (.store 16 (.t 4) (.t 9)), none, 0⟩], [9], 0, false, []⟩
def r8_3 : Reg := ⟨[⟨(some 10), (.mv (.c (.int .i64 0))), none, 0⟩], [], 0, false, []⟩
def r8_4 : Reg := ⟨[⟨(some 11), (.bin .lss (.int .i64) (.t 10) (.c (.int .i64 16))), none, 0⟩], [], 0, false, []⟩
def r8_5 : Reg := ⟨[⟨(some 12), (.mv (.t 10)), none, 0⟩, ⟨(some 5), (.mv (.t 12)), none, 0⟩], [12], 0, false, []⟩
def r8_6 : Reg := ⟨[⟨(some 13), (.mv (.t 5)), none, 0⟩, ⟨(some 14), (.idxA 16 1 (.t 2) (.t 13)), none, 0⟩, ⟨(some 15), (.load none (.t 14)), none, 0⟩, ⟨(some 16), (.mv (.t 5)), none, 0⟩, ⟨(some 17), (.callP 18 [(.t 16)]), none, 0⟩, ⟨(some 18), (.idxA 4 1 (.t 3) (.t 17)), none, 0⟩, ⟨(some 19), (.load none (.t 18)), none, 0⟩, ⟨(some 20), (.callP 20 [(.t 19)]), none, 0⟩, ⟨(some 21), (.bin .mul (.int .i64) (.t 15) (.t 20)), none, 0⟩, ⟨(some 22), (.idxA 16 1 (.t 2) (.t 13)), none, 0⟩, ⟨none, (.store 1 (.t 22) (.t 21)), none, 0⟩], [13, 14, 15, 16, 17, 18, 19, 20, 21, 22], 0, false, []⟩
def r8_7 : Reg := ⟨[⟨(some 23), (.bin .add (.int .i64) (.t 10) (.c (.int .i64 1))), none, 0⟩, ⟨(some 10), (.mv (.t 23)), none, 0⟩], [23], 0, false, []⟩
def l8_8 : SC := (.seq (.seq (.reg r8_4) (.seq (.cond (.t 11) .skip (.seq (.kill [0, 1, 3, 5, 8, 10, 11]) (.exit 0))) (.seq (.block 1 (.seq (.reg r8_5) (.reg r8_6))) (.reg r8_7)))) (.kill [0, 1, 5, 8, 11]))
def r8_9 : Reg := ⟨[⟨(some 24), (.load (some 16) (.t 2)), none, 0⟩, ⟨none, (.store 16 (.t 4) (.t 24)), none, 0⟩], [24], 0, false, []⟩
def sf8 : SFn := { np := 2, vars := [0, 1, 2, 3, 4, 5, 8, 10, 11], body := (.seq (.reg r8_0) (.seq (.seq (.reg r8_1) (.cond (.t 8) (.seq (.reg r8_2) (.seq (.kill [0, 1, 2, 3, 5, 8, 10, 11]) .ret)) .skip)) (.seq (.seq (.reg r8_3) (.block 0 (.seq (.kill [0, 1, 5, 8, 11]) (.loop l8_8)))) (.seq (.reg r8_9) (.seq (.kill [0, 1, 2, 3, 5, 8, 10, 11]) .ret))))), res := [(.cell 4 (some 16))] }
/-! calliope/calliopelaw09.right -/
def r9_0 : Reg := ⟨[⟨(some 1), (.box (.t 0)), none, 0⟩, ⟨(some 2), (.mv (.c (.bool false))), none, 1⟩], [], 1, true, []⟩
def r9_1 : Reg := ⟨[⟨(some 3), (.mv (.c (.int .i64 0))), none, 0⟩], [], 0, false, []⟩
def r9_2 : Reg := ⟨[⟨(some 4), (.mv (.t 3)), none, 0⟩, ⟨(some 5), (.bin .lss (.int .i64) (.t 4) (.c (.int .i64 4))), none, 0⟩], [4], 0, false, []⟩
def r9_3 : Reg := ⟨[⟨(some 8), (.mv (.t 3)), none, 0⟩, ⟨(some 9), (.idxA 4 1 (.t 1) (.t 8)), none, 0⟩, ⟨(some 10), (.load none (.t 9)), none, 0⟩, ⟨(some 11), (.bin .lss (.int .i64) (.t 10) (.c (.int .i64 0))), none, 0⟩, ⟨(some 12), (.mv (.t 11)), none, 0⟩, ⟨(some 13), (.mv (.t 3)), (some (12, false)), 0⟩, ⟨(some 14), (.idxA 4 1 (.t 1) (.t 13)), (some (12, false)), 0⟩, ⟨(some 15), (.load none (.t 14)), (some (12, false)), 0⟩, ⟨(some 16), (.bin .gtr (.int .i64) (.t 15) (.c (.int .i64 23))), (some (12, false)), 0⟩, ⟨(some 17), (.pick (.t 12) (.c (.bool true)) (.t 16)), none, 0⟩], [8, 9, 10, 11, 12, 13, 14, 15, 16], 0, false, []⟩
def r9_4 : Reg := ⟨[⟨(some 2), (.mv (.c (.bool false))), none, 0⟩], [], 0, false, []⟩
def r9_5 : Reg := ⟨[⟨(some 6), (.mv (.t 3)), none, 0⟩, ⟨(some 7), (.bin .add (.int .i64) (.t 6) (.c (.int .i64 1))), none, 0⟩, ⟨(some 3), (.mv (.t 7)), none, 0⟩], [6, 7], 0, false, []⟩
def l9_6 : SC := (.seq (.seq (.seq (.reg r9_2) (.cond (.t 5) .skip (.seq (.kill [0, 1, 2, 3, 5, 17]) (.exit 0)))) (.seq (.block 1 (.seq (.reg r9_3) (.cond (.t 17) (.seq (.reg r9_4) (.seq (.kill [0, 1, 3, 5, 17]) .ret)) .skip))) (.reg r9_5))) (.kill [0, 2, 5, 17]))
def r9_7 : Reg := ⟨[⟨(some 2), (.mv (.c (.bool true))), none, 0⟩], [], 0, false, []⟩
def sf9 : SFn := { np := 1, vars := [0, 1, 2, 3, 5, 17], body := (.seq (.reg r9_0) (.seq (.seq (.reg r9_1) (.block 0 (.seq (.kill [0, 2, 5, 17]) (.loop l9_6)))) (.seq (.reg r9_7) (.seq (.kill [0, 1, 3, 5, 17]) .ret)))), res := [(.tmp 2)] }
/-! calliope/calliopelaw09.power -/
def r10_0 : Reg := ⟨[⟨(some 2), (.mv (.c (.int .i64 0))), none, 0⟩], [], 0, false, []⟩
def r10_1 : Reg := ⟨[⟨(some 3), (.mv (.c (.int .i64 1))), none, 0⟩], [], 0, false, []⟩
def r10_2 : Reg := ⟨[⟨(some 4), (.mv (.c (.int .i64 0))), none, 0⟩], [], 0, false, []⟩
def r10_3 : Reg := ⟨[⟨(some 5), (.mv (.t 4)), none, 0⟩, ⟨(some 6), (.mv (.t 0)), none, 0⟩, ⟨(some 7), (.bin .lss (.int .i64) (.t 5) (.t 6)), none, 0⟩], [5, 6], 0, false, []⟩
def r10_4 : Reg := ⟨[⟨(some 10), (.mv (.t 3)), none, 0⟩, ⟨(some 11), (.bin .mul (.int .i64) (.c (.int .i64 2)) (.t 10)), none, 0⟩, ⟨(some 3), (.mv (.t 11)), none, 0⟩], [10, 11], 0, false, []⟩
def r10_5 : Reg := ⟨[⟨(some 8), (.mv (.t 4)), none, 0⟩, ⟨(some 9), (.bin .add (.int .i64) (.t 8) (.c (.int .i64 1))), none, 0⟩, ⟨(some 4), (.mv (.t 9)), none, 0⟩], [8, 9], 0, false, []⟩
def l10_6 : SC := (.seq (.seq (.seq (.reg r10_3) (.cond (.t 7) .skip (.seq (.kill [0, 2, 4, 7]) (.exit 0)))) (.seq (.block 1 (.reg r10_4)) (.reg r10_5))) (.kill [2, 7]))
def r10_7 : Reg := ⟨[⟨(some 12), (.mv (.t 3)), none, 0⟩, ⟨(some 2), (.mv (.t 12)), none, 0⟩], [12], 0, false, []⟩
def sf10 : SFn := { np := 1, vars := [0, 2, 3, 4, 7], body := (.seq (.reg r10_0) (.seq (.reg r10_1) (.seq (.seq (.reg r10_2) (.block 0 (.seq (.kill [2, 7]) (.loop l10_6)))) (.seq (.reg r10_7) (.seq (.kill [0, 3, 4, 7]) .ret))))), res := [(.tmp 2)] }
/-! calliope/quant.Steps -/
def r11_0 : Reg := ⟨[⟨(some 2), (.box (.t 0)), none, 0⟩, ⟨(some 3), (.box (.t 1)), none, 1⟩, ⟨(some 4), (.alloc (.ints .i64 [0, 0, 0, 0, 0, 0, 0, 0, 0, 0, 0, 0, 0, 0, 0, 0])), none, 2⟩], [], 3, true, []⟩
def r11_1 : Reg := ⟨[⟨(some 6), (.load (some 4) (.t 3)), none, 0⟩, ⟨(some 7), (.callP 12 [(.t 6)]), none, 0⟩, ⟨(some 8), (.un .not (.t 7)), none, 0⟩], [6, 7], 0, false, []⟩
def r11_2 : Reg := ⟨[⟨(some 9), (.build (.ints .i64 [0, 0, 0, 0, 0, 0, 0, 0, 0, 0, 0, 0, 0, 0, 0, 0]) []), none, 0⟩, ⟨none, (.store 16 (.t 4) (.t 9)), none, 0⟩], [9], 0, false, []⟩
def r11_3 : Reg := ⟨[⟨(some 10), (.mv (.c (.int .i64 0))), none, 0⟩], [], 0, false, []⟩
def r11_4 : Reg := ⟨[⟨(some 11), (.bin .lss (.int .i64) (.t 10) (.c (.int .i64 16))), none, 0⟩], [], 0, false, []⟩
def r11_5 : Reg := ⟨[⟨(some 12), (.mv (.t 10)), none, 0⟩, ⟨(some 5), (.mv (.t 12)), none, 0⟩], [12], 0, false, []⟩
def r11_6 : Reg := ⟨[⟨(some 13), (.mv (.t 5)), none, 0⟩, ⟨(some 14), (.mv (.t 5)), none, 0⟩, ⟨(some 15), (.idxA 16 1 (.t 2) (.t 14)), none, 0⟩, ⟨(some 16), (.load none (.t 15)), none, 0⟩, ⟨(some 17), (.mv (.t 5)), none, 0⟩, ⟨(some 18), (.callP 18 [(.t 17)]), none, 0⟩, ⟨(some 19), (.idxA 4 1 (.t 3) (.t 18)), none, 0⟩, ⟨(some 20), (.load none (.t 19)), none, 0⟩, ⟨(some 21), (.callP 21 [(.t 16), (.t 20)]), none, 0⟩, ⟨(some 22), (.idxA 16 1 (.t 2) (.t 13)), none, 0⟩, ⟨none, (.store 1 (.t 22) (.t 21)), none, 0⟩], [13, 14, 15, 16, 17, 18, 19, 20, 21, 22], 0, false, []⟩
def r11_7 : Reg := ⟨[⟨(some 23), (.bin .add (.int .i64) (.t 10) (.c (.int .i64 1))), none, 0⟩, ⟨(some 10), (.mv (.t 23)), none, 0⟩], [23], 0, false, []⟩
def l11_8 : SC := (.seq (.seq (.reg r11_4) (.seq (.cond (.t 11) .skip (.seq (.kill [0, 1, 3, 5, 8, 10, 11]) (.exit 0))) (.seq (.block 1 (.seq (.reg r11_5) (.reg r11_6))) (.reg r11_7)))) (.kill [0, 1, 5, 8, 11]))
def r11_9 : Reg := ⟨[⟨(some 24), (.load (some 16) (.t 2)), none, 0⟩, ⟨none, (.store 16 (.t 4) (.t 24)), none, 0⟩], [24], 0, false, []⟩
def sf11 : SFn := { np := 2, vars := [0, 1, 2, 3, 4, 5, 8, 10, 11], body := (.seq (.reg r11_0) (.seq (.seq (.reg r11_1) (.cond (.t 8) (.seq (.reg r11_2) (.seq (.kill [0, 1, 2, 3, 5, 8, 10, 11]) .ret)) .skip)) (.seq (.seq (.reg r11_3) (.block 0 (.seq (.kill [0, 1, 5, 8, 11]) (.loop l11_8)))) (.seq (.reg r11_9) (.seq (.kill [0, 1, 2, 3, 5, 8, 10, 11]) .ret))))), res := [(.cell 4 (some 16))] }
/-! (calliope/quant.Scales).Right -/
def r12_0 : Reg := ⟨[⟨(some 1), (.box (.t 0)), none, 0⟩, ⟨(some 2), (.mv (.c (.bool false))), none, 1⟩], [], 1, true, []⟩
def r12_1 : Reg := ⟨[⟨(some 5), (.load (some 4) (.t 1)), none, 0⟩, ⟨(some 6), (.mv (.c (.int .i64 0))), none, 0⟩], [], 0, false, []⟩
def r12_2 : Reg := ⟨[⟨(some 7), (.bin .lss (.int .i64) (.t 6) (.c (.int .i64 4))), none, 0⟩], [], 0, false, []⟩
def r12_3 : Reg := ⟨[⟨(some 8), (.idxV 4 1 false (.t 5) (.t 6)), none, 0⟩, ⟨(some 4), (.mv (.t 8)), none, 0⟩], [8], 0, false, []⟩
def r12_4 : Reg := ⟨[⟨(some 9), (.mv (.t 4)), none, 0⟩, ⟨(some 10), (.bin .lss (.int .i64) (.t 9) (.c (.int .i64 0))), none, 0⟩, ⟨(some 11), (.mv (.t 10)), none, 0⟩, ⟨(some 12), (.mv (.t 4)), (some (11, false)), 0⟩, ⟨(some 13), (.bin .gtr (.int .i64) (.t 12) (.c (.int .i64 23))), (some (11, false)), 0⟩, ⟨(some 14), (.pick (.t 11) (.c (.bool true)) (.t 13)), none, 0⟩], [9, 10, 11, 12, 13], 0, false, []⟩
def r12_5 : Reg := ⟨[⟨(some 2), (.mv (.c (.bool false))), none, 0⟩], [], 0, false, []⟩
def r12_6 : Reg := ⟨[⟨(some 15), (.bin .add (.int .i64) (.t 6) (.c (.int .i64 1))), none, 0⟩, ⟨(some 6), (.mv (.t 15)), none, 0⟩], [15], 0, false, []⟩
def l12_7 : SC := (.seq (.seq (.reg r12_2) (.seq (.cond (.t 7) .skip (.seq (.kill [0, 1, 2, 4, 5, 6, 7, 14]) (.exit 0))) (.seq (.block 1 (.seq (.reg r12_3) (.seq (.reg r12_4) (.cond (.t 14) (.seq (.reg r12_5) (.seq (.kill [0, 1, 4, 5, 6, 7, 14]) .ret)) .skip)))) (.reg r12_6)))) (.kill [0, 1, 2, 4, 7, 14]))
def r12_8 : Reg := ⟨[⟨(some 2), (.mv (.c (.bool true))), none, 0⟩], [], 0, false, []⟩
def sf12 : SFn := { np := 1, vars := [0, 1, 2, 4, 5, 6, 7, 14], body := (.seq (.reg r12_0) (.seq (.seq (.reg r12_1) (.block 0 (.seq (.kill [0, 1, 2, 4, 7, 14]) (.loop l12_7)))) (.seq (.reg r12_8) (.seq (.kill [0, 1, 4, 5, 6, 7, 14]) .ret)))), res := [(.tmp 2)] }
/-! calliope/calliopelaw09.near -/
def r13_0 : Reg := ⟨[⟨(some 1), (.box (.t 0)), none, 0⟩, ⟨(some 2), (.mv (.c (.bool false))), none, 1⟩], [], 1, true, []⟩
def r13_1 : Reg := ⟨[⟨(some 3), (.mv (.c (.int .i64 0))), none, 0⟩], [], 0, false, []⟩
def r13_2 : Reg := ⟨[⟨(some 4), (.mv (.t 3)), none, 0⟩, ⟨(some 5), (.bin .lss (.int .i64) (.t 4) (.c (.int .i64 16))), none, 0⟩], [4], 0, false, []⟩
def r13_3 : Reg := ⟨[⟨(some 8), (.mv (.t 3)), none, 0⟩, ⟨(some 9), (.idxA 16 1 (.t 1) (.t 8)), none, 0⟩, ⟨(some 10), (.load none (.t 9)), none, 0⟩, ⟨(some 11), (.bin .lss (.int .i64) (.t 10) (.c (.int .i64 (-1099511627776)))), none, 0⟩, ⟨(some 12), (.mv (.t 11)), none, 0⟩, ⟨(some 13), (.mv (.t 3)), (some (12, false)), 0⟩, ⟨(some 14), (.idxA 16 1 (.t 1) (.t 13)), (some (12, false)), 0⟩, ⟨(some 15), (.load none (.t 14)), (some (12, false)), 0⟩, ⟨(some 16), (.bin .gtr (.int .i64) (.t 15) (.c (.int .i64 1099511627776))), (some (12, false)), 0⟩, ⟨(some 17), (.pick (.t 12) (.c (.bool true)) (.t 16)), none, 0⟩], [8, 9, 10, 11, 12, 13, 14, 15, 16], 0, false, []⟩
def r13_4 : Reg := ⟨[⟨(some 2), (.mv (.c (.bool false))), none, 0⟩], [], 0, false, []⟩
def r13_5 : Reg := ⟨[⟨(some 6), (.mv (.t 3)), none, 0⟩, ⟨(some 7), (.bin .add (.int .i64) (.t 6) (.c (.int .i64 1))), none, 0⟩, ⟨(some 3), (.mv (.t 7)), none, 0⟩], [6, 7], 0, false, []⟩
def l13_6 : SC := (.seq (.seq (.seq (.reg r13_2) (.cond (.t 5) .skip (.seq (.kill [0, 1, 2, 3, 5, 17]) (.exit 0)))) (.seq (.block 1 (.seq (.reg r13_3) (.cond (.t 17) (.seq (.reg r13_4) (.seq (.kill [0, 1, 3, 5, 17]) .ret)) .skip))) (.reg r13_5))) (.kill [0, 2, 5, 17]))
def r13_7 : Reg := ⟨[⟨(some 2), (.mv (.c (.bool true))), none, 0⟩], [], 0, false, []⟩
def sf13 : SFn := { np := 1, vars := [0, 1, 2, 3, 5, 17], body := (.seq (.reg r13_0) (.seq (.seq (.reg r13_1) (.block 0 (.seq (.kill [0, 2, 5, 17]) (.loop l13_6)))) (.seq (.reg r13_7) (.seq (.kill [0, 1, 3, 5, 17]) .ret)))), res := [(.tmp 2)] }
/-! calliope/quant.Half -/
def r14_0 : Reg := ⟨[⟨(some 2), (.mv (.c (.int .i64 0))), none, 0⟩], [], 0, false, []⟩
def r14_1 : Reg := ⟨[⟨(some 3), (.mv (.t 0)), none, 0⟩, ⟨(some 4), (.bin .leq (.int .i64) (.t 3) (.c (.int .i64 0))), none, 0⟩], [3], 0, false, []⟩
def r14_2 : Reg := ⟨[⟨(some 2), (.mv (.c (.int .i64 0))), none, 0⟩], [], 0, false, []⟩
def r14_3 : Reg := ⟨[⟨(some 5), (.mv (.t 0)), none, 0⟩, ⟨(some 6), (.callP 20 [(.t 5)]), none, 0⟩, ⟨(some 7), (.bin .quo (.int .i64) (.t 6) (.c (.int .i64 2))), none, 0⟩, ⟨(some 2), (.mv (.t 7)), none, 0⟩], [5, 6, 7], 0, false, []⟩
def sf14 : SFn := { np := 1, vars := [0, 2, 4], body := (.seq (.reg r14_0) (.seq (.seq (.reg r14_1) (.cond (.t 4) (.seq (.reg r14_2) (.seq (.kill [0, 4]) .ret)) .skip)) (.seq (.reg r14_3) (.seq (.kill [0, 4]) .ret)))), res := [(.tmp 2)] }
/-! calliope/quant.Widths -/
def r15_0 : Reg := ⟨[⟨(some 1), (.box (.t 0)), none, 0⟩, ⟨(some 2), (.alloc (.ints .i64 [0, 0, 0, 0])), none, 1⟩], [], 2, true, []⟩
def r15_1 : Reg := ⟨[⟨(some 3), (.alloc (.ints .i64 [0, 0, 0, 0])), none, 0⟩], [], 1, true, []⟩
def r15_2 : Reg := ⟨[⟨(some 6), (.load (some 16) (.t 1)), none, 0⟩, ⟨(some 7), (.mv (.c (.int .i64 0))), none, 0⟩], [], 0, false, []⟩
def r15_3 : Reg := ⟨[⟨(some 8), (.bin .lss (.int .i64) (.t 7) (.c (.int .i64 16))), none, 0⟩], [], 0, false, []⟩
def r15_4 : Reg := ⟨[⟨(some 9), (.mv (.t 7)), none, 0⟩, ⟨(some 10), (.idxV 16 1 false (.t 6) (.t 7)), none, 0⟩, ⟨(some 4), (.mv (.t 9)), none, 0⟩, ⟨(some 5), (.mv (.t 10)), none, 0⟩], [9, 10], 0, false, []⟩
def r15_5 : Reg := ⟨[⟨(some 11), (.mv (.t 4)), none, 0⟩, ⟨(some 12), (.callP 18 [(.t 11)]), none, 0⟩, ⟨(some 13), (.mv (.t 4)), none, 0⟩, ⟨(some 14), (.callP 18 [(.t 13)]), none, 0⟩, ⟨(some 15), (.idxA 4 1 (.t 3) (.t 14)), none, 0⟩, ⟨(some 16), (.load none (.t 15)), none, 0⟩, ⟨(some 17), (.mv (.t 5)), none, 0⟩, ⟨(some 18), (.callP 16 [(.t 17)]), none, 0⟩, ⟨(some 19), (.mx true [(.t 16), (.t 18)]), none, 0⟩, ⟨(some 20), (.idxA 4 1 (.t 3) (.t 12)), none, 0⟩, ⟨none, (.store 1 (.t 20) (.t 19)), none, 0⟩], [11, 12, 13, 14, 15, 16, 17, 18, 19, 20], 0, false, []⟩
def r15_6 : Reg := ⟨[⟨(some 21), (.bin .add (.int .i64) (.t 7) (.c (.int .i64 1))), none, 0⟩, ⟨(some 7), (.mv (.t 21)), none, 0⟩], [21], 0, false, []⟩
def l15_7 : SC := (.seq (.seq (.reg r15_3) (.seq (.cond (.t 8) .skip (.seq (.kill [0, 1, 4, 5, 6, 7, 8]) (.exit 0))) (.seq (.block 1 (.seq (.reg r15_4) (.reg r15_5))) (.reg r15_6)))) (.kill [0, 1, 4, 5, 8]))
def r15_8 : Reg := ⟨[⟨(some 22), (.load (some 4) (.t 3)), none, 0⟩, ⟨none, (.store 4 (.t 2) (.t 22)), none, 0⟩], [22], 0, false, []⟩
def sf15 : SFn := { np := 1, vars := [0, 1, 2, 3, 4, 5, 6, 7, 8], body := (.seq (.reg r15_0) (.seq (.reg r15_1) (.seq (.seq (.reg r15_2) (.block 0 (.seq (.kill [0, 1, 4, 5, 8]) (.loop l15_7)))) (.seq (.reg r15_8) (.seq (.kill [0, 1, 3, 4, 5, 6, 7, 8]) .ret))))), res := [(.cell 2 (some 4))] }
/-! calliope/num.Width -/
def r16_0 : Reg := ⟨[⟨(some 2), (.mv (.c (.int .i64 0))), none, 0⟩], [], 0, false, []⟩
def r16_1 : Reg := ⟨[⟨(some 4), (.mv (.t 0)), none, 0⟩, ⟨(some 5), (.bin .eql (.int .i64) (.t 4) (.c (.int .i64 0))), none, 0⟩], [4], 0, false, []⟩
def r16_2 : Reg := ⟨[⟨(some 2), (.mv (.c (.int .i64 0))), none, 0⟩], [], 0, false, []⟩
def r16_3 : Reg := ⟨[⟨(some 6), (.mv (.t 0)), none, 0⟩, ⟨(some 7), (.bin .lss (.int .i64) (.t 6) (.c (.int .i64 0))), none, 0⟩], [6], 0, false, []⟩
def r16_4 : Reg := ⟨[⟨(some 8), (.mv (.t 0)), none, 0⟩, ⟨(some 9), (.un .xor (.t 8)), none, 0⟩, ⟨(some 0), (.mv (.t 9)), none, 0⟩], [8, 9], 0, false, []⟩
def r16_5 : Reg := ⟨[⟨(some 3), (.mv (.c (.int .i64 1))), none, 0⟩], [], 0, false, []⟩
def r16_6 : Reg := ⟨[⟨(some 10), (.mv (.t 0)), none, 0⟩, ⟨(some 11), (.bin .gtr (.int .i64) (.t 10) (.c (.int .i64 0))), none, 0⟩], [10], 0, false, []⟩
def r16_7 : Reg := ⟨[⟨(some 14), (.mv (.t 3)), none, 0⟩, ⟨(some 15), (.bin .add (.int .i64) (.t 14) (.c (.int .i64 1))), none, 0⟩, ⟨(some 3), (.mv (.t 15)), none, 0⟩], [14, 15], 0, false, []⟩
def r16_8 : Reg := ⟨[⟨(some 12), (.mv (.t 0)), none, 0⟩, ⟨(some 13), (.bin .shr (.int .i64) (.t 12) (.c (.int .u64 1))), none, 0⟩, ⟨(some 0), (.mv (.t 13)), none, 0⟩], [12, 13], 0, false, []⟩
def l16_9 : SC := (.seq (.seq (.seq (.reg r16_6) (.cond (.t 11) .skip (.seq (.kill [0, 2, 5, 7, 11]) (.exit 0)))) (.seq (.block 1 (.reg r16_7)) (.reg r16_8))) (.kill [2, 5, 7, 11]))
def r16_10 : Reg := ⟨[⟨(some 16), (.mv (.t 3)), none, 0⟩, ⟨(some 2), (.mv (.t 16)), none, 0⟩], [16], 0, false, []⟩
def sf16 : SFn := { np := 1, vars := [0, 2, 3, 5, 7, 11], body := (.seq (.reg r16_0) (.seq (.seq (.reg r16_1) (.cond (.t 5) (.seq (.reg r16_2) (.seq (.kill [0, 3, 5, 7, 11]) .ret)) .skip)) (.seq (.seq (.reg r16_3) (.cond (.t 7) (.reg r16_4) .skip)) (.seq (.reg r16_5) (.seq (.block 0 (.seq (.kill [2, 5, 7, 11]) (.loop l16_9))) (.seq (.reg r16_10) (.seq (.kill [0, 3, 5, 7, 11]) .ret))))))), res := [(.tmp 2)] }
/-! calliope/quant.Cost -/
def r17_0 : Reg := ⟨[⟨(some 1), (.box (.t 0)), none, 0⟩, ⟨(some 2), (.mv (.c (.int .i64 0))), none, 1⟩], [], 1, true, []⟩
def r17_1 : Reg := ⟨[⟨(some 3), (.mv (.c (.int .i64 0))), none, 0⟩], [], 0, false, []⟩
def r17_2 : Reg := ⟨[⟨(some 6), (.load (some 4) (.t 1)), none, 0⟩, ⟨(some 7), (.mv (.c (.int .i64 0))), none, 0⟩], [], 0, false, []⟩
def r17_3 : Reg := ⟨[⟨(some 8), (.bin .lss (.int .i64) (.t 7) (.c (.int .i64 4))), none, 0⟩], [], 0, false, []⟩
def r17_4 : Reg := ⟨[⟨(some 9), (.idxV 4 1 false (.t 6) (.t 7)), none, 0⟩, ⟨(some 5), (.mv (.t 9)), none, 0⟩], [9], 0, false, []⟩
def r17_5 : Reg := ⟨[⟨(some 10), (.mv (.t 3)), none, 0⟩, ⟨(some 11), (.mv (.t 5)), none, 0⟩, ⟨(some 12), (.bin .mul (.int .i64) (.c (.int .i64 4)) (.t 11)), none, 0⟩, ⟨(some 13), (.bin .add (.int .i64) (.t 10) (.t 12)), none, 0⟩, ⟨(some 3), (.mv (.t 13)), none, 0⟩], [10, 11, 12, 13], 0, false, []⟩
def r17_6 : Reg := ⟨[⟨(some 14), (.bin .add (.int .i64) (.t 7) (.c (.int .i64 1))), none, 0⟩, ⟨(some 7), (.mv (.t 14)), none, 0⟩], [14], 0, false, []⟩
def l17_7 : SC := (.seq (.seq (.reg r17_3) (.seq (.cond (.t 8) .skip (.seq (.kill [0, 1, 2, 5, 6, 7, 8]) (.exit 0))) (.seq (.block 1 (.seq (.reg r17_4) (.reg r17_5))) (.reg r17_6)))) (.kill [0, 1, 2, 5, 8]))
def r17_8 : Reg := ⟨[⟨(some 15), (.mv (.t 3)), none, 0⟩, ⟨(some 2), (.mv (.t 15)), none, 0⟩], [15], 0, false, []⟩
def sf17 : SFn := { np := 1, vars := [0, 1, 2, 3, 5, 6, 7, 8], body := (.seq (.reg r17_0) (.seq (.reg r17_1) (.seq (.seq (.reg r17_2) (.block 0 (.seq (.kill [0, 1, 2, 5, 8]) (.loop l17_7)))) (.seq (.reg r17_8) (.seq (.kill [0, 1, 3, 5, 6, 7, 8]) .ret))))), res := [(.tmp 2)] }
/-! calliope/quant.Band -/
def r18_0 : Reg := ⟨[⟨(some 2), (.mv (.c (.int .i64 0))), none, 0⟩], [], 0, false, []⟩
def r18_1 : Reg := ⟨[⟨(some 3), (.mv (.t 0)), none, 0⟩, ⟨(some 4), (.bin .lss (.int .i64) (.t 3) (.c (.int .i64 0))), none, 0⟩, ⟨(some 5), (.mv (.t 4)), none, 0⟩, ⟨(some 6), (.mv (.t 0)), (some (5, false)), 0⟩, ⟨(some 7), (.bin .geq (.int .i64) (.t 6) (.c (.int .i64 16))), (some (5, false)), 0⟩, ⟨(some 8), (.pick (.t 5) (.c (.bool true)) (.t 7)), none, 0⟩], [3, 4, 5, 6, 7], 0, false, []⟩
def r18_2 : Reg := ⟨[⟨(some 2), (.mv (.c (.int .i64 0))), none, 0⟩], [], 0, false, []⟩
def r18_3 : Reg := ⟨[⟨(some 9), (.mv (.t 0)), none, 0⟩, ⟨(some 10), (.bin .quo (.int .i64) (.t 9) (.c (.int .i64 4))), none, 0⟩, ⟨(some 2), (.mv (.t 10)), none, 0⟩], [9, 10], 0, false, []⟩
def sf18 : SFn := { np := 1, vars := [0, 2, 8], body := (.seq (.reg r18_0) (.seq (.seq (.reg r18_1) (.cond (.t 8) (.seq (.reg r18_2) (.seq (.kill [0, 8]) .ret)) .skip)) (.seq (.reg r18_3) (.seq (.kill [0, 8]) .ret)))), res := [(.tmp 2)] }
/-! calliope/quant.Noise -/
def r19_0 : Reg := ⟨[⟨(some 2), (.box (.t 0)), none, 0⟩, ⟨(some 3), (.box (.t 1)), none, 1⟩, ⟨(some 4), (.mv (.c (.int .i64 0))), none, 2⟩], [], 2, true, []⟩
def r19_1 : Reg := ⟨[⟨(some 5), (.alloc (.ints .i64 [0, 0, 0, 0, 0, 0, 0, 0, 0, 0, 0, 0, 0, 0, 0, 0])), none, 0⟩], [], 1, true, []⟩
def r19_2 : Reg := ⟨[⟨(some 7), (.mv (.c (.int .i64 0))), none, 0⟩], [], 0, false, []⟩
def r19_3 : Reg := ⟨[⟨(some 8), (.bin .lss (.int .i64) (.t 7) (.c (.int .i64 16))), none, 0⟩], [], 0, false, []⟩
def r19_4 : Reg := ⟨[⟨(some 9), (.mv (.t 7)), none, 0⟩, ⟨(some 6), (.mv (.t 9)), none, 0⟩], [9], 0, false, []⟩
def r19_5 : Reg := ⟨[⟨(some 10), (.mv (.t 6)), none, 0⟩, ⟨(some 11), (.mv (.t 6)), none, 0⟩, ⟨(some 12), (.idxA 16 1 (.t 2) (.t 11)), none, 0⟩, ⟨(some 13), (.load none (.t 12)), none, 0⟩, ⟨(some 14), (.mv (.t 6)), none, 0⟩, ⟨(some 15), (.idxA 16 1 (.t 3) (.t 14)), none, 0⟩, ⟨(some 16), (.load none (.t 15)), none, 0⟩, ⟨(some 17), (.bin .sub (.int .i64) (.t 13) (.t 16)), none, 0⟩, ⟨(some 18), (.idxA 16 1 (.t 5) (.t 10)), none, 0⟩, ⟨none, (.store 1 (.t 18) (.t 17)), none, 0⟩], [10, 11, 12, 13, 14, 15, 16, 17, 18], 0, false, []⟩
def r19_6 : Reg := ⟨[⟨(some 19), (.bin .add (.int .i64) (.t 7) (.c (.int .i64 1))), none, 0⟩, ⟨(some 7), (.mv (.t 19)), none, 0⟩], [19], 0, false, []⟩
def l19_7 : SC := (.seq (.seq (.reg r19_3) (.seq (.cond (.t 8) .skip (.seq (.kill [0, 1, 2, 3, 4, 6, 7, 8]) (.exit 0))) (.seq (.block 1 (.seq (.reg r19_4) (.reg r19_5))) (.reg r19_6)))) (.kill [0, 1, 4, 6, 8]))
def r19_8 : Reg := ⟨[⟨(some 20), (.slA 16 1 (.t 5) none none), none, 0⟩, ⟨(some 21), (.call 22 [(.t 20)]), none, 0⟩, ⟨(some 4), (.mv (.t 21)), none, 0⟩], [20, 21], 0, true, []⟩
def sf19 : SFn := { np := 2, vars := [0, 1, 2, 3, 4, 5, 6, 7, 8], body := (.seq (.reg r19_0) (.seq (.reg r19_1) (.seq (.seq (.reg r19_2) (.block 0 (.seq (.kill [0, 1, 4, 6, 8]) (.loop l19_7)))) (.seq (.reg r19_8) (.seq (.kill [0, 1, 2, 3, 5, 6, 7, 8]) .ret))))), res := [(.tmp 4)] }
/-! calliope/table.Step -/
def r20_0 : Reg := ⟨[⟨(some 2), (.mv (.c (.int .i64 0))), none, 0⟩], [], 0, false, []⟩
def r20_1 : Reg := ⟨[⟨(some 3), (.mv (.t 0)), none, 0⟩, ⟨(some 4), (.bin .lss (.int .i64) (.t 3) (.c (.int .i64 0))), none, 0⟩, ⟨(some 5), (.mv (.t 4)), none, 0⟩, ⟨(some 6), (.mv (.t 0)), (some (5, false)), 0⟩, ⟨(some 7), (.bin .gtr (.int .i64) (.t 6) (.c (.int .i64 23))), (some (5, false)), 0⟩, ⟨(some 8), (.pick (.t 5) (.c (.bool true)) (.t 7)), none, 0⟩], [3, 4, 5, 6, 7], 0, false, []⟩
def r20_2 : Reg := ⟨[⟨(some 2), (.mv (.c (.int .i64 0))), none, 0⟩], [], 0, false, []⟩
def r20_3 : Reg := ⟨[⟨(some 9), (.mv (.t 0)), none, 0⟩, ⟨(some 10), (.bin .shl (.int .i64) (.c (.int .i64 1)) (.t 9)), none, 0⟩, ⟨(some 2), (.mv (.t 10)), none, 0⟩], [9, 10], 0, false, []⟩
def sf20 : SFn := { np := 1, vars := [0, 2, 8], body := (.seq (.reg r20_0) (.seq (.seq (.reg r20_1) (.cond (.t 8) (.seq (.reg r20_2) (.seq (.kill [0, 8]) .ret)) .skip)) (.seq (.reg r20_3) (.seq (.kill [0, 8]) .ret)))), res := [(.tmp 2)] }
/-! calliope/num.Near -/
def r21_0 : Reg := ⟨[⟨(some 4), (.mv (.c (.int .i64 0))), none, 0⟩], [], 0, false, []⟩
def r21_1 : Reg := ⟨[⟨(some 7), (.mv (.t 1)), none, 0⟩, ⟨(some 8), (.bin .lss (.int .i64) (.t 7) (.c (.int .i64 0))), none, 0⟩, ⟨(some 9), (.mv (.t 8)), none, 0⟩, ⟨(some 10), (.mv (.t 1)), (some (9, false)), 0⟩, ⟨(some 11), (.bin .gtr (.int .i64) (.t 10) (.c (.int .i64 62))), (some (9, false)), 0⟩, ⟨(some 12), (.pick (.t 9) (.c (.bool true)) (.t 11)), none, 0⟩], [7, 8, 9, 10, 11], 0, false, []⟩
def r21_2 : Reg := ⟨[⟨(some 4), (.mv (.c (.int .i64 0))), none, 0⟩], [], 0, false, []⟩
def r21_3 : Reg := ⟨[⟨(some 13), (.mv (.t 0)), none, 0⟩, ⟨(some 14), (.mv (.t 1)), none, 0⟩, ⟨(some 15), (.bin .shl (.int .i64) (.c (.int .i64 1)) (.t 14)), none, 0⟩, ⟨(some 16), (.bin .quo (.int .i64) (.t 13) (.t 15)), none, 0⟩, ⟨(some 17), (.mv (.t 0)), none, 0⟩, ⟨(some 18), (.mv (.t 1)), none, 0⟩, ⟨(some 19), (.bin .shl (.int .i64) (.c (.int .i64 1)) (.t 18)), none, 0⟩, ⟨(some 20), (.bin .rem (.int .i64) (.t 17) (.t 19)), none, 0⟩, ⟨(some 5), (.mv (.t 16)), none, 0⟩, ⟨(some 6), (.mv (.t 20)), none, 0⟩], [13, 14, 15, 16, 17, 18, 19, 20], 0, false, []⟩
def r21_4 : Reg := ⟨[⟨(some 22), (.mv (.t 1)), none, 0⟩, ⟨(some 23), (.bin .eql (.int .i64) (.t 22) (.c (.int .i64 0))), none, 0⟩, ⟨(some 21), (.mv (.t 23)), none, 0⟩], [22, 23], 0, false, []⟩
def r21_5 : Reg := ⟨[⟨(some 25), (.mv (.t 6)), none, 0⟩, ⟨(some 26), (.mv (.t 1)), none, 0⟩, ⟨(some 27), (.bin .sub (.int .i64) (.t 26) (.c (.int .i64 1))), none, 0⟩, ⟨(some 28), (.bin .shl (.int .i64) (.c (.int .i64 1)) (.t 27)), none, 0⟩, ⟨(some 29), (.bin .geq (.int .i64) (.t 25) (.t 28)), none, 0⟩, ⟨(some 24), (.mv (.t 29)), none, 0⟩], [25, 26, 27, 28, 29], 0, false, []⟩
def r21_6 : Reg := ⟨[⟨(some 30), (.mv (.t 5)), none, 0⟩, ⟨(some 31), (.bin .add (.int .i64) (.t 30) (.c (.int .i64 1))), none, 0⟩, ⟨(some 5), (.mv (.t 31)), none, 0⟩], [30, 31], 0, false, []⟩
def r21_7 : Reg := ⟨[⟨(some 33), (.mv (.t 6)), none, 0⟩, ⟨(some 34), (.mv (.t 1)), none, 0⟩, ⟨(some 35), (.bin .sub (.int .i64) (.t 34) (.c (.int .i64 1))), none, 0⟩, ⟨(some 36), (.bin .shl (.int .i64) (.c (.int .i64 (-1))) (.t 35)), none, 0⟩, ⟨(some 37), (.bin .leq (.int .i64) (.t 33) (.t 36)), none, 0⟩, ⟨(some 32), (.mv (.t 37)), none, 0⟩], [33, 34, 35, 36, 37], 0, false, []⟩
def r21_8 : Reg := ⟨[⟨(some 38), (.mv (.t 5)), none, 0⟩, ⟨(some 39), (.bin .sub (.int .i64) (.t 38) (.c (.int .i64 1))), none, 0⟩, ⟨(some 5), (.mv (.t 39)), none, 0⟩], [38, 39], 0, false, []⟩
def r21_9 : Reg := ⟨[⟨(some 40), (.mv (.t 5)), none, 0⟩, ⟨(some 4), (.mv (.t 40)), none, 0⟩], [40], 0, false, []⟩
def sf21 : SFn := { np := 2, vars := [0, 1, 4, 5, 6, 12, 21, 24, 32], body := (.seq (.reg r21_0) (.seq (.seq (.reg r21_1) (.cond (.t 12) (.seq (.reg r21_2) (.seq (.kill [0, 1, 5, 6, 12, 21, 24, 32]) .ret)) .skip)) (.seq (.reg r21_3) (.seq (.block 0 (.seq (.reg r21_4) (.cond (.t 21) .skip (.seq (.reg r21_5) (.cond (.t 24) (.reg r21_6) (.seq (.reg r21_7) (.cond (.t 32) (.reg r21_8) .skip))))))) (.seq (.reg r21_9) (.seq (.kill [0, 1, 5, 6, 12, 21, 24, 32]) .ret)))))), res := [(.tmp 4)] }
/-! calliope/num.Peak -/
def r22_0 : Reg := ⟨[⟨(some 2), (.mv (.c (.int .i64 0))), none, 0⟩], [], 0, false, []⟩
def r22_1 : Reg := ⟨[⟨(some 3), (.mv (.c (.int .i64 0))), none, 0⟩], [], 0, false, []⟩
def r22_2 : Reg := ⟨[⟨(some 6), (.mv (.t 0)), none, 0⟩, ⟨(some 7), (.len .slice (.t 6)), none, 0⟩, ⟨(some 8), (.mv (.c (.int .i64 0))), none, 0⟩], [], 0, false, []⟩
def r22_3 : Reg := ⟨[⟨(some 9), (.bin .lss (.int .i64) (.t 8) (.t 7)), none, 0⟩], [], 0, false, []⟩
def r22_4 : Reg := ⟨[⟨(some 10), (.idxS 1 (.t 6) (.t 8)), none, 0⟩, ⟨(some 11), (.load none (.t 10)), none, 0⟩, ⟨(some 5), (.mv (.t 11)), none, 0⟩], [10, 11], 0, false, []⟩
def r22_5 : Reg := ⟨[⟨(some 12), (.mv (.t 3)), none, 0⟩, ⟨(some 13), (.mv (.t 5)), none, 0⟩, ⟨(some 14), (.callP 23 [(.t 13)]), none, 0⟩, ⟨(some 15), (.mx true [(.t 12), (.t 14)]), none, 0⟩, ⟨(some 3), (.mv (.t 15)), none, 0⟩], [12, 13, 14, 15], 0, false, []⟩
def r22_6 : Reg := ⟨[⟨(some 16), (.bin .add (.int .i64) (.t 8) (.c (.int .i64 1))), none, 0⟩, ⟨(some 8), (.mv (.t 16)), none, 0⟩], [16], 0, false, []⟩
def l22_7 : SC := (.seq (.seq (.reg r22_3) (.seq (.cond (.t 9) .skip (.seq (.kill [0, 2, 5, 6, 7, 8, 9]) (.exit 0))) (.seq (.block 1 (.seq (.reg r22_4) (.reg r22_5))) (.reg r22_6)))) (.kill [0, 2, 5, 9]))
def r22_8 : Reg := ⟨[⟨(some 17), (.mv (.t 3)), none, 0⟩, ⟨(some 2), (.mv (.t 17)), none, 0⟩], [17], 0, false, []⟩
def sf22 : SFn := { np := 1, vars := [0, 2, 3, 5, 6, 7, 8, 9], body := (.seq (.reg r22_0) (.seq (.reg r22_1) (.seq (.seq (.reg r22_2) (.block 0 (.seq (.kill [0, 2, 5, 9]) (.loop l22_7)))) (.seq (.reg r22_8) (.seq (.kill [0, 3, 5, 6, 7, 8, 9]) .ret))))), res := [(.tmp 2)] }
/-! calliope/num.Abs -/
def r23_0 : Reg := ⟨[⟨(some 2), (.mv (.c (.int .i64 0))), none, 0⟩], [], 0, false, []⟩
def r23_1 : Reg := ⟨[⟨(some 4), (.mv (.t 0)), none, 0⟩, ⟨(some 5), (.bin .eql (.int .i64) (.t 4) (.c (.int .i64 (-9223372036854775808)))), none, 0⟩, ⟨(some 3), (.mv (.t 5)), none, 0⟩], [4, 5], 0, false, []⟩
def r23_2 : Reg := ⟨[⟨(some 2), (.mv (.c (.int .i64 9223372036854775807))), none, 0⟩], [], 0, false, []⟩
def r23_3 : Reg := ⟨[⟨(some 7), (.mv (.t 0)), none, 0⟩, ⟨(some 8), (.bin .lss (.int .i64) (.t 7) (.c (.int .i64 0))), none, 0⟩, ⟨(some 6), (.mv (.t 8)), none, 0⟩], [7, 8], 0, false, []⟩
def r23_4 : Reg := ⟨[⟨(some 9), (.mv (.t 0)), none, 0⟩, ⟨(some 10), (.un .neg (.t 9)), none, 0⟩, ⟨(some 2), (.mv (.t 10)), none, 0⟩], [9, 10], 0, false, []⟩
def r23_5 : Reg := ⟨[⟨(some 11), (.mv (.t 0)), none, 0⟩, ⟨(some 2), (.mv (.t 11)), none, 0⟩], [11], 0, false, []⟩
def sf23 : SFn := { np := 1, vars := [0, 2, 3, 6], body := (.seq (.reg r23_0) (.seq (.block 0 (.seq (.reg r23_1) (.cond (.t 3) (.seq (.reg r23_2) (.seq (.kill [0, 3, 6]) .ret)) (.seq (.reg r23_3) (.cond (.t 6) (.seq (.reg r23_4) (.seq (.kill [0, 3, 6]) .ret)) .skip))))) (.seq (.reg r23_5) (.seq (.kill [0, 3, 6]) .ret)))), res := [(.tmp 2)] }
theorem c3 : cFn Try.prog 3 = some sf3 := by kernel_rfl
theorem k3 : callable Try.prog 3 = true := by kernel_rfl
theorem p3 : ∀ F, Try.prog.funcs[3]? = some F → F.params.size ≤ F.ntmps := fun F h => by rw [Try.func3] at h; cases h; exact of_decide_eq_true (by kernel_rfl)
theorem c4 : cFn Try.prog 4 = some sf4 := by kernel_rfl
theorem k4 : callable Try.prog 4 = true := by kernel_rfl
theorem p4 : ∀ F, Try.prog.funcs[4]? = some F → F.params.size ≤ F.ntmps := fun F h => by rw [Try.func4] at h; cases h; exact of_decide_eq_true (by kernel_rfl)
theorem c5 : cFn Try.prog 5 = some sf5 := by kernel_rfl
theorem k5 : callable Try.prog 5 = true := by kernel_rfl
theorem p5 : ∀ F, Try.prog.funcs[5]? = some F → F.params.size ≤ F.ntmps := fun F h => by rw [Try.func5] at h; cases h; exact of_decide_eq_true (by kernel_rfl)
theorem c6 : cFn Try.prog 6 = some sf6 := by kernel_rfl
theorem k6 : callable Try.prog 6 = true := by kernel_rfl
theorem p6 : ∀ F, Try.prog.funcs[6]? = some F → F.params.size ≤ F.ntmps := fun F h => by rw [Try.func6] at h; cases h; exact of_decide_eq_true (by kernel_rfl)
theorem c7 : cFn Try.prog 7 = some sf7 := by kernel_rfl
theorem k7 : callable Try.prog 7 = true := by kernel_rfl
theorem p7 : ∀ F, Try.prog.funcs[7]? = some F → F.params.size ≤ F.ntmps := fun F h => by rw [Try.func7] at h; cases h; exact of_decide_eq_true (by kernel_rfl)
theorem c8 : cFn Try.prog 8 = some sf8 := by kernel_rfl
theorem k8 : callable Try.prog 8 = true := by kernel_rfl
theorem p8 : ∀ F, Try.prog.funcs[8]? = some F → F.params.size ≤ F.ntmps := fun F h => by rw [Try.func8] at h; cases h; exact of_decide_eq_true (by kernel_rfl)
theorem c9 : cFn Try.prog 9 = some sf9 := by kernel_rfl
theorem k9 : callable Try.prog 9 = true := by kernel_rfl
theorem p9 : ∀ F, Try.prog.funcs[9]? = some F → F.params.size ≤ F.ntmps := fun F h => by rw [Try.func9] at h; cases h; exact of_decide_eq_true (by kernel_rfl)
theorem c10 : cFn Try.prog 10 = some sf10 := by kernel_rfl
theorem k10 : callable Try.prog 10 = true := by kernel_rfl
theorem p10 : ∀ F, Try.prog.funcs[10]? = some F → F.params.size ≤ F.ntmps := fun F h => by rw [Try.func10] at h; cases h; exact of_decide_eq_true (by kernel_rfl)
theorem c11 : cFn Try.prog 11 = some sf11 := by kernel_rfl
theorem k11 : callable Try.prog 11 = true := by kernel_rfl
theorem p11 : ∀ F, Try.prog.funcs[11]? = some F → F.params.size ≤ F.ntmps := fun F h => by rw [Try.func11] at h; cases h; exact of_decide_eq_true (by kernel_rfl)
theorem c12 : cFn Try.prog 12 = some sf12 := by kernel_rfl
theorem k12 : callable Try.prog 12 = true := by kernel_rfl
theorem p12 : ∀ F, Try.prog.funcs[12]? = some F → F.params.size ≤ F.ntmps := fun F h => by rw [Try.func12] at h; cases h; exact of_decide_eq_true (by kernel_rfl)
theorem c13 : cFn Try.prog 13 = some sf13 := by kernel_rfl
theorem k13 : callable Try.prog 13 = true := by kernel_rfl
theorem p13 : ∀ F, Try.prog.funcs[13]? = some F → F.params.size ≤ F.ntmps := fun F h => by rw [Try.func13] at h; cases h; exact of_decide_eq_true (by kernel_rfl)
theorem c14 : cFn Try.prog 14 = some sf14 := by kernel_rfl
theorem k14 : callable Try.prog 14 = true := by kernel_rfl
theorem p14 : ∀ F, Try.prog.funcs[14]? = some F → F.params.size ≤ F.ntmps := fun F h => by rw [Try.func14] at h; cases h; exact of_decide_eq_true (by kernel_rfl)
theorem c15 : cFn Try.prog 15 = some sf15 := by kernel_rfl
theorem k15 : callable Try.prog 15 = true := by kernel_rfl
theorem p15 : ∀ F, Try.prog.funcs[15]? = some F → F.params.size ≤ F.ntmps := fun F h => by rw [Try.func15] at h; cases h; exact of_decide_eq_true (by kernel_rfl)
theorem c16 : cFn Try.prog 16 = some sf16 := by kernel_rfl
theorem k16 : callable Try.prog 16 = true := by kernel_rfl
theorem p16 : ∀ F, Try.prog.funcs[16]? = some F → F.params.size ≤ F.ntmps := fun F h => by rw [Try.func16] at h; cases h; exact of_decide_eq_true (by kernel_rfl)
theorem c17 : cFn Try.prog 17 = some sf17 := by kernel_rfl
theorem k17 : callable Try.prog 17 = true := by kernel_rfl
theorem p17 : ∀ F, Try.prog.funcs[17]? = some F → F.params.size ≤ F.ntmps := fun F h => by rw [Try.func17] at h; cases h; exact of_decide_eq_true (by kernel_rfl)
theorem c18 : cFn Try.prog 18 = some sf18 := by kernel_rfl
theorem k18 : callable Try.prog 18 = true := by kernel_rfl
theorem p18 : ∀ F, Try.prog.funcs[18]? = some F → F.params.size ≤ F.ntmps := fun F h => by rw [Try.func18] at h; cases h; exact of_decide_eq_true (by kernel_rfl)
theorem c19 : cFn Try.prog 19 = some sf19 := by kernel_rfl
theorem k19 : callable Try.prog 19 = true := by kernel_rfl
theorem p19 : ∀ F, Try.prog.funcs[19]? = some F → F.params.size ≤ F.ntmps := fun F h => by rw [Try.func19] at h; cases h; exact of_decide_eq_true (by kernel_rfl)
theorem c20 : cFn Try.prog 20 = some sf20 := by kernel_rfl
theorem k20 : callable Try.prog 20 = true := by kernel_rfl
theorem p20 : ∀ F, Try.prog.funcs[20]? = some F → F.params.size ≤ F.ntmps := fun F h => by rw [Try.func20] at h; cases h; exact of_decide_eq_true (by kernel_rfl)
theorem c21 : cFn Try.prog 21 = some sf21 := by kernel_rfl
theorem k21 : callable Try.prog 21 = true := by kernel_rfl
theorem p21 : ∀ F, Try.prog.funcs[21]? = some F → F.params.size ≤ F.ntmps := fun F h => by rw [Try.func21] at h; cases h; exact of_decide_eq_true (by kernel_rfl)
theorem c22 : cFn Try.prog 22 = some sf22 := by kernel_rfl
theorem k22 : callable Try.prog 22 = true := by kernel_rfl
theorem p22 : ∀ F, Try.prog.funcs[22]? = some F → F.params.size ≤ F.ntmps := fun F h => by rw [Try.func22] at h; cases h; exact of_decide_eq_true (by kernel_rfl)
theorem c23 : cFn Try.prog 23 = some sf23 := by kernel_rfl
theorem k23 : callable Try.prog 23 = true := by kernel_rfl
theorem p23 : ∀ F, Try.prog.funcs[23]? = some F → F.params.size ≤ F.ntmps := fun F h => by rw [Try.func23] at h; cases h; exact of_decide_eq_true (by kernel_rfl)
def tab : FuncId → Option SFn := tabL [(3, sf3), (4, sf4), (5, sf5), (6, sf6), (7, sf7), (8, sf8), (9, sf9), (10, sf10), (11, sf11), (12, sf12), (13, sf13), (14, sf14), (15, sf15), (16, sf16), (17, sf17), (18, sf18), (19, sf19), (20, sf20), (21, sf21), (22, sf22), (23, sf23)]
theorem tabOk : TabOk Try.prog tab :=
  tabOk_cons c3 k3 p3 (tabOk_cons c4 k4 p4 (tabOk_cons c5 k5 p5 (tabOk_cons c6 k6 p6 (tabOk_cons c7 k7 p7 (tabOk_cons c8 k8 p8 (tabOk_cons c9 k9 p9 (tabOk_cons c10 k10 p10 (tabOk_cons c11 k11 p11 (tabOk_cons c12 k12 p12 (tabOk_cons c13 k13 p13 (tabOk_cons c14 k14 p14 (tabOk_cons c15 k15 p15 (tabOk_cons c16 k16 p16 (tabOk_cons c17 k17 p17 (tabOk_cons c18 k18 p18 (tabOk_cons c19 k19 p19 (tabOk_cons c20 k20 p20 (tabOk_cons c21 k21 p21 (tabOk_cons c22 k22 p22 (tabOk_cons c23 k23 p23 (tabOk_nil _)))))))))))))))))))))
theorem t3 : tab 3 = some sf3 := rfl
theorem t4 : tab 4 = some sf4 := rfl
theorem t5 : tab 5 = some sf5 := rfl
theorem t6 : tab 6 = some sf6 := rfl
theorem t7 : tab 7 = some sf7 := rfl
theorem t8 : tab 8 = some sf8 := rfl
theorem t9 : tab 9 = some sf9 := rfl
theorem t10 : tab 10 = some sf10 := rfl
theorem t11 : tab 11 = some sf11 := rfl
theorem t12 : tab 12 = some sf12 := rfl
theorem t13 : tab 13 = some sf13 := rfl
theorem t14 : tab 14 = some sf14 := rfl
theorem t15 : tab 15 = some sf15 := rfl
theorem t16 : tab 16 = some sf16 := rfl
theorem t17 : tab 17 = some sf17 := rfl
theorem t18 : tab 18 = some sf18 := rfl
theorem t19 : tab 19 = some sf19 := rfl
theorem t20 : tab 20 = some sf20 := rfl
theorem t21 : tab 21 = some sf21 := rfl
theorem t22 : tab 22 = some sf22 := rfl
theorem t23 : tab 23 = some sf23 := rfl
end Go.Proofs.Ytmankoejlflhmaa
