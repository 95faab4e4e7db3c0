/-
  The abstract forms of this seat's functions, by program, and that they are the ones that the model's code has. Conditions: none.
-/
import Derived.Test.YthofmhnbncopjaaRows
import Derived.Test.YthofmhnbncopjaaSxP
namespace Go.Proofs.Ythofmhnbncopjaa
open Go Go.Sx
set_option maxRecDepth 100000
/-! calliope/calliopelaw19.VeilNobody -/
def r3_0 : Reg := ⟨[⟨(some 1), (.box (.t 0)), none, 0⟩, ⟨(some 2), (.mv (.c (.bool false))), none, 1⟩], [], 1, true, []⟩
def r3_1 : Reg := ⟨[⟨(some 3), (.mv (.c .nilp)), none, 0⟩], [], 0, false, []⟩
def r3_2 : Reg := ⟨[⟨(some 4), (.mv (.t 3)), none, 0⟩, ⟨(some 5), (.call 6 [(.t 4)]), none, 0⟩], [4, 5], 0, true, []⟩
def r3_3 : Reg := ⟨[⟨(some 6), (.mv (.t 3)), none, 0⟩, ⟨(some 7), (.load (some 29) (.t 1)), none, 0⟩, ⟨(some 8), (.call 8 [(.t 7)]), none, 0⟩, ⟨(some 9), (.call 7 [(.t 6), (.t 8)]), none, 0⟩, ⟨(some 10), (.build (.ints .i64 [0, 0, 0, 0, 0, 0, 0, 0, 0, 0, 0, 0, 0, 0, 0, 0, 0, 0, 0, 0]) []), none, 0⟩, ⟨(some 11), (.bin .eql (.cells [(.int .i64), (.int .i64), (.int .i64), (.int .i64), (.int .i64), (.int .i64), (.int .i64), (.int .i64), (.int .i64), (.int .i64), (.int .i64), (.int .i64), (.int .i64), (.int .i64), (.int .i64), (.int .i64), (.int .i64), (.int .i64), (.int .i64), (.int .i64)]) (.t 9) (.t 10)), none, 0⟩, ⟨(some 12), (.mv (.t 11)), none, 0⟩, ⟨(some 13), (.mv (.t 3)), (some (12, true)), 0⟩, ⟨(some 14), (.call 9 [(.t 13)]), (some (12, true)), 0⟩, ⟨(some 15), (.build (.ints .i64 [0, 0, 0, 0, 0, 0, 0, 0, 0, 0, 0, 0, 0, 0, 0, 0, 0, 0, 0, 0]) []), (some (12, true)), 0⟩, ⟨(some 16), (.bin .eql (.cells [(.int .i64), (.int .i64), (.int .i64), (.int .i64), (.int .i64), (.int .i64), (.int .i64), (.int .i64), (.int .i64), (.int .i64), (.int .i64), (.int .i64), (.int .i64), (.int .i64), (.int .i64), (.int .i64), (.int .i64), (.int .i64), (.int .i64), (.int .i64)]) (.t 14) (.t 15)), (some (12, true)), 0⟩, ⟨(some 17), (.pick (.t 12) (.t 16) (.c (.bool false))), none, 0⟩, ⟨(some 18), (.mv (.t 17)), none, 0⟩, ⟨(some 19), (.mv (.t 3)), (some (18, true)), 0⟩, ⟨(some 20), (.call 10 [(.t 19)]), (some (18, true)), 0⟩, ⟨(some 21), (.bin .eql (.int .i64) (.t 20) (.c (.int .i64 0))), (some (18, true)), 0⟩, ⟨(some 22), (.pick (.t 18) (.t 21) (.c (.bool false))), none, 0⟩, ⟨(some 23), (.mv (.t 22)), none, 0⟩, ⟨(some 24), (.callP 11 []), (some (23, true)), 0⟩, ⟨(some 25), (.pick (.t 23) (.t 24) (.c (.bool false))), none, 0⟩, ⟨(some 2), (.mv (.t 25)), none, 0⟩], [6, 7, 8, 9, 10, 11, 12, 13, 14, 15, 16, 17, 18, 19, 20, 21, 22, 23, 24, 25], 0, true, []⟩
def sf3 : SFn := { np := 1, vars := [0, 1, 2, 3], body := (.seq (.reg r3_0) (.seq (.reg r3_1) (.seq (.reg r3_2) (.seq (.reg r3_3) (.seq (.kill [0, 1, 3]) .ret))))), res := [(.tmp 2)] }
/-! calliope/calliopelaw19.VeilPlays -/
def r4_0 : Reg := ⟨[⟨(some 2), (.mv (.c (.bool false))), none, 0⟩], [], 0, false, []⟩
def r4_1 : Reg := ⟨[⟨(some 11), (.build (.ints .i64 [0, 0, 0, 0, 0, 0, 0, 0, 0, 0, 0, 0, 0, 0, 0, 0, 0, 0, 0, 0, 0]) []), none, 0⟩, ⟨(some 12), (.box (.t 11)), none, 0⟩, ⟨(some 3), (.mv (.t 12)), none, 1⟩], [11, 12], 1, true, []⟩
def r4_2 : Reg := ⟨[⟨(some 13), (.build (.ints .i64 [0, 0, 0, 0, 0, 0, 0, 0, 0, 0, 0, 0, 0, 0, 0, 0, 0, 0, 0, 0]) []), none, 0⟩, ⟨(some 4), (.alloc (.ints .i64 [0, 0, 0, 0, 0, 0, 0, 0, 0, 0, 0, 0, 0, 0, 0, 0, 0, 0, 0, 0])), none, 0⟩, ⟨none, (.store 20 (.t 4) (.t 13)), none, 1⟩], [13], 1, true, []⟩
def r4_3 : Reg := ⟨[⟨(some 5), (.mv (.c (.int .i64 0))), none, 0⟩], [], 0, false, []⟩
def r4_4 : Reg := ⟨[⟨(some 6), (.mv (.c (.int .i64 0))), none, 0⟩], [], 0, false, []⟩
def r4_5 : Reg := ⟨[⟨(some 14), (.mv (.t 6)), none, 0⟩, ⟨(some 15), (.mv (.t 0)), none, 0⟩, ⟨(some 16), (.len .slice (.t 15)), none, 0⟩, ⟨(some 17), (.bin .lss (.int .i64) (.t 14) (.t 16)), none, 0⟩, ⟨(some 18), (.mv (.t 17)), none, 0⟩, ⟨(some 19), (.mv (.t 6)), (some (18, true)), 0⟩, ⟨(some 20), (.bin .lss (.int .i64) (.t 19) (.c (.int .i64 40))), (some (18, true)), 0⟩, ⟨(some 21), (.pick (.t 18) (.t 20) (.c (.bool false))), none, 0⟩], [14, 15, 16, 17, 18, 19, 20], 0, false, []⟩
def r4_6 : Reg := ⟨[⟨(some 24), (.mv (.t 0)), none, 0⟩, ⟨(some 25), (.mv (.t 6)), none, 0⟩, ⟨(some 26), (.idxS 30 (.t 24) (.t 25)), none, 0⟩, ⟨(some 27), (.fieldAddr 1 (.t 26)), none, 0⟩, ⟨(some 28), (.load (some 29) (.t 27)), none, 0⟩, ⟨(some 29), (.call 8 [(.t 28)]), none, 0⟩, ⟨(some 7), (.alloc (.agg [(.int .i64 0), (.int .i64 0), (.int .i64 0), (.int .i64 0), .nils, (.int .i64 0), (.int .i64 0), (.int .i64 0), (.int .i64 0), (.int .i64 0), (.int .i64 0), (.int .i64 0), (.int .i64 0), (.int .i64 0), (.int .i64 0), (.int .i64 0), (.int .i64 0), (.int .i64 0), (.int .i64 0), (.int .i64 0), (.int .i64 0), (.int .i64 0), (.int .i64 0), (.int .i64 0), (.int .i64 0), (.int .i64 0), (.int .i64 0), (.int .i64 0), (.int .i64 0)])), none, 0⟩, ⟨none, (.store 29 (.t 7) (.t 29)), none, 1⟩], [24, 25, 26, 27, 28, 29], 1, true, []⟩
def r4_7 : Reg := ⟨[⟨(some 30), (.mv (.t 0)), none, 0⟩, ⟨(some 31), (.mv (.t 6)), none, 0⟩, ⟨(some 32), (.idxS 30 (.t 30) (.t 31)), none, 0⟩, ⟨(some 33), (.fieldAddr 0 (.t 32)), none, 0⟩, ⟨(some 34), (.load none (.t 33)), none, 0⟩, ⟨(some 8), (.mv (.t 34)), none, 0⟩], [30, 31, 32, 33, 34], 0, false, []⟩
def r4_8 : Reg := ⟨[⟨(some 36), (.mv (.t 8)), none, 0⟩, ⟨(some 37), (.bin .eql (.int .i64) (.t 36) (.c (.int .i64 4))), none, 0⟩, ⟨(some 35), (.mv (.t 37)), none, 0⟩], [36, 37], 0, false, []⟩
def r4_9 : Reg := ⟨[⟨(some 38), (.mv (.t 3)), none, 0⟩, ⟨(some 39), (.call 6 [(.t 38)]), none, 0⟩], [38, 39], 0, true, []⟩
def r4_10 : Reg := ⟨[⟨(some 40), (.build (.ints .i64 [0, 0, 0, 0, 0, 0, 0, 0, 0, 0, 0, 0, 0, 0, 0, 0, 0, 0, 0, 0]) []), none, 0⟩, ⟨none, (.store 20 (.t 4) (.t 40)), none, 0⟩], [40], 0, false, []⟩
def r4_11 : Reg := ⟨[⟨(some 5), (.mv (.c (.int .i64 0))), none, 0⟩], [], 0, false, []⟩
def r4_12 : Reg := ⟨[⟨(some 42), (.mv (.t 8)), none, 0⟩, ⟨(some 43), (.bin .eql (.int .i64) (.t 42) (.c (.int .i64 2))), none, 0⟩, ⟨(some 44), (.mv (.t 43)), none, 0⟩, ⟨(some 45), (.mv (.t 8)), (some (44, false)), 0⟩, ⟨(some 46), (.bin .eql (.int .i64) (.t 45) (.c (.int .i64 3))), (some (44, false)), 0⟩, ⟨(some 47), (.pick (.t 44) (.c (.bool true)) (.t 46)), none, 0⟩, ⟨(some 41), (.mv (.t 47)), none, 0⟩], [42, 43, 44, 45, 46, 47], 0, false, []⟩
def r4_13 : Reg := ⟨[⟨(some 48), (.mv (.t 5)), none, 0⟩, ⟨(some 49), (.bin .add (.int .i64) (.t 48) (.c (.int .i64 1))), none, 0⟩, ⟨(some 5), (.mv (.t 49)), none, 0⟩], [48, 49], 0, false, []⟩
def r4_14 : Reg := ⟨[⟨(some 50), (.load (some 20) (.t 4)), none, 0⟩, ⟨(some 9), (.alloc (.ints .i64 [0, 0, 0, 0, 0, 0, 0, 0, 0, 0, 0, 0, 0, 0, 0, 0, 0, 0, 0, 0])), none, 0⟩, ⟨none, (.store 20 (.t 9) (.t 50)), none, 1⟩], [50], 1, true, []⟩
def r4_15 : Reg := ⟨[⟨(some 10), (.mv (.c (.int .i64 0))), none, 0⟩], [], 0, false, []⟩
def r4_16 : Reg := ⟨[⟨(some 51), (.mv (.t 10)), none, 0⟩, ⟨(some 52), (.bin .lss (.int .i64) (.t 51) (.c (.int .i64 16))), none, 0⟩], [51], 0, false, []⟩
def r4_17 : Reg := ⟨[⟨(some 55), (.mv (.t 10)), none, 0⟩, ⟨(some 56), (.mv (.t 10)), none, 0⟩, ⟨(some 57), (.fieldAddr 0 (.t 9)), none, 0⟩, ⟨(some 58), (.idxA 16 1 (.t 57) (.t 56)), none, 0⟩, ⟨(some 59), (.load none (.t 58)), none, 0⟩, ⟨(some 60), (.mv (.t 5)), none, 0⟩, ⟨(some 61), (.callP 12 [(.t 59), (.t 60)]), none, 0⟩, ⟨(some 62), (.fieldAddr 0 (.t 9)), none, 0⟩, ⟨(some 63), (.idxA 16 1 (.t 62) (.t 55)), none, 0⟩, ⟨none, (.store 1 (.t 63) (.t 61)), none, 0⟩], [55, 56, 57, 58, 59, 60, 61, 62, 63], 0, false, []⟩
def r4_18 : Reg := ⟨[⟨(some 53), (.mv (.t 10)), none, 0⟩, ⟨(some 54), (.bin .add (.int .i64) (.t 53) (.c (.int .i64 1))), none, 0⟩, ⟨(some 10), (.mv (.t 54)), none, 0⟩], [53, 54], 0, false, []⟩
def l4_19 : SC := (.seq (.seq (.seq (.reg r4_16) (.cond (.t 52) .skip (.seq (.kill [2, 7, 8, 10, 21, 35, 41, 52, 65, 70, 71, 89, 93]) (.exit 3)))) (.seq (.block 4 (.reg r4_17)) (.reg r4_18))) (.kill [2, 7, 8, 21, 35, 41, 52, 65, 70, 71, 89, 93]))
def r4_20 : Reg := ⟨[⟨(some 64), (.mv (.t 5)), none, 0⟩, ⟨(some 65), (.bin .gtr (.int .i64) (.t 64) (.c (.int .i64 4))), none, 0⟩], [64], 0, false, []⟩
def r4_21 : Reg := ⟨[⟨(some 66), (.build (.ints .i64 [0, 0, 0, 0, 0, 0, 0, 0, 0, 0, 0, 0, 0, 0, 0, 0, 0, 0, 0, 0]) []), none, 0⟩, ⟨none, (.store 20 (.t 9) (.t 66)), none, 0⟩], [66], 0, false, []⟩
def r4_22 : Reg := ⟨[⟨(some 67), (.mv (.t 3)), none, 0⟩, ⟨(some 68), (.call 9 [(.t 67)]), none, 0⟩, ⟨(some 69), (.load (some 20) (.t 9)), none, 0⟩, ⟨(some 70), (.bin .neq (.cells [(.int .i64), (.int .i64), (.int .i64), (.int .i64), (.int .i64), (.int .i64), (.int .i64), (.int .i64), (.int .i64), (.int .i64), (.int .i64), (.int .i64), (.int .i64), (.int .i64), (.int .i64), (.int .i64), (.int .i64), (.int .i64), (.int .i64), (.int .i64)]) (.t 68) (.t 69)), none, 0⟩], [67, 68, 69], 0, true, [(1, 2)]⟩
def r4_23 : Reg := ⟨[⟨(some 2), (.mv (.c (.bool false))), none, 0⟩], [], 0, false, []⟩
def r4_24 : Reg := ⟨[⟨(some 72), (.load (some 29) (.t 7)), none, 0⟩, ⟨(some 73), (.call 13 [(.t 72)]), none, 0⟩, ⟨(some 71), (.mv (.t 73)), none, 0⟩], [72, 73], 0, true, []⟩
def r4_25 : Reg := ⟨[⟨(some 74), (.load (some 29) (.t 7)), none, 0⟩, ⟨(some 75), (.call 14 [(.t 74)]), none, 0⟩, ⟨(some 76), (.fieldAddr 0 (.t 7)), none, 0⟩, ⟨(some 77), (.load (some 4) (.t 76)), none, 0⟩, ⟨(some 78), (.build (.ints .i64 [0, 0, 0, 0, 0, 0, 0, 0, 0, 0, 0, 0, 0, 0, 0, 0, 0, 0, 0, 0]) [(0, 16, (.t 75)), (16, 4, (.t 77))]), none, 0⟩, ⟨none, (.store 20 (.t 4) (.t 78)), none, 0⟩], [74, 75, 76, 77, 78], 0, true, [(1, 3)]⟩
def r4_26 : Reg := ⟨[⟨(some 5), (.mv (.c (.int .i64 0))), none, 0⟩], [], 0, false, []⟩
def r4_27 : Reg := ⟨[⟨(some 79), (.mv (.t 3)), none, 0⟩, ⟨(some 80), (.load (some 29) (.t 7)), none, 0⟩, ⟨(some 81), (.call 7 [(.t 79), (.t 80)]), none, 0⟩, ⟨(some 82), (.load (some 20) (.t 4)), none, 0⟩, ⟨(some 83), (.bin .neq (.cells [(.int .i64), (.int .i64), (.int .i64), (.int .i64), (.int .i64), (.int .i64), (.int .i64), (.int .i64), (.int .i64), (.int .i64), (.int .i64), (.int .i64), (.int .i64), (.int .i64), (.int .i64), (.int .i64), (.int .i64), (.int .i64), (.int .i64), (.int .i64)]) (.t 81) (.t 82)), none, 0⟩, ⟨(some 84), (.mv (.t 83)), none, 0⟩, ⟨(some 85), (.load (some 29) (.t 7)), (some (84, false)), 0⟩, ⟨(some 86), (.call 15 [(.t 85)]), (some (84, false)), 0⟩, ⟨(some 87), (.load (some 20) (.t 4)), (some (84, false)), 0⟩, ⟨(some 88), (.bin .neq (.cells [(.int .i64), (.int .i64), (.int .i64), (.int .i64), (.int .i64), (.int .i64), (.int .i64), (.int .i64), (.int .i64), (.int .i64), (.int .i64), (.int .i64), (.int .i64), (.int .i64), (.int .i64), (.int .i64), (.int .i64), (.int .i64), (.int .i64), (.int .i64)]) (.t 86) (.t 87)), (some (84, false)), 0⟩, ⟨(some 89), (.pick (.t 84) (.c (.bool true)) (.t 88)), none, 0⟩], [79, 80, 81, 82, 83, 84, 85, 86, 87, 88], 0, true, [(2, 3), (7, 8)]⟩
def r4_28 : Reg := ⟨[⟨(some 2), (.mv (.c (.bool false))), none, 0⟩], [], 0, false, []⟩
def r4_29 : Reg := ⟨[⟨(some 90), (.mv (.t 3)), none, 0⟩, ⟨(some 91), (.call 10 [(.t 90)]), none, 0⟩, ⟨(some 92), (.mv (.t 5)), none, 0⟩, ⟨(some 93), (.bin .neq (.int .i64) (.t 91) (.t 92)), none, 0⟩], [90, 91, 92], 0, true, []⟩
def r4_30 : Reg := ⟨[⟨(some 2), (.mv (.c (.bool false))), none, 0⟩], [], 0, false, []⟩
def r4_31 : Reg := ⟨[⟨(some 22), (.mv (.t 6)), none, 0⟩, ⟨(some 23), (.bin .add (.int .i64) (.t 22) (.c (.int .i64 1))), none, 0⟩, ⟨(some 6), (.mv (.t 23)), none, 0⟩], [22, 23], 0, false, []⟩
def l4_32 : SC := (.seq (.seq (.seq (.reg r4_5) (.cond (.t 21) .skip (.seq (.kill [0, 2, 3, 4, 5, 6, 7, 8, 9, 10, 21, 35, 41, 52, 65, 70, 71, 89, 93]) (.exit 0)))) (.seq (.block 1 (.seq (.reg r4_6) (.seq (.reg r4_7) (.seq (.block 2 (.seq (.reg r4_8) (.cond (.t 35) (.seq (.reg r4_9) (.seq (.reg r4_10) (.reg r4_11))) (.seq (.reg r4_12) (.cond (.t 41) (.seq (.reg r4_13) (.seq (.reg r4_14) (.seq (.seq (.reg r4_15) (.block 3 (.seq (.kill [2, 7, 8, 21, 35, 41, 52, 65, 70, 71, 89, 93]) (.loop l4_19)))) (.seq (.seq (.reg r4_20) (.cond (.t 65) (.reg r4_21) .skip)) (.seq (.reg r4_22) (.cond (.t 70) (.seq (.reg r4_23) (.seq (.kill [0, 3, 4, 5, 6, 7, 8, 9, 10, 21, 35, 41, 52, 65, 70, 71, 89, 93]) .ret)) .skip)))))) (.seq (.reg r4_24) (.cond (.t 71) (.seq (.reg r4_25) (.seq (.reg r4_26) (.seq (.reg r4_27) (.cond (.t 89) (.seq (.reg r4_28) (.seq (.kill [0, 3, 4, 5, 6, 7, 8, 9, 10, 21, 35, 41, 52, 65, 70, 71, 89, 93]) .ret)) .skip)))) .skip))))))) (.seq (.reg r4_29) (.cond (.t 93) (.seq (.reg r4_30) (.seq (.kill [0, 3, 4, 5, 6, 7, 8, 9, 10, 21, 35, 41, 52, 65, 70, 71, 89, 93]) .ret)) .skip)))))) (.reg r4_31))) (.seq (.kill [2, 7, 8, 9, 10, 21, 35, 41, 52, 65, 70, 71, 89, 93]) .tidy))
def r4_33 : Reg := ⟨[⟨(some 94), (.mv (.c (.bool true))), none, 0⟩, ⟨(some 95), (.callP 11 []), (some (94, true)), 0⟩, ⟨(some 96), (.pick (.t 94) (.t 95) (.c (.bool false))), none, 0⟩, ⟨(some 2), (.mv (.t 96)), none, 0⟩], [94, 95, 96], 0, false, []⟩
def sf4 : SFn := { np := 1, vars := [0, 2, 3, 4, 5, 6, 7, 8, 9, 10, 21, 35, 41, 52, 65, 70, 71, 89, 93], body := (.seq (.reg r4_0) (.seq (.reg r4_1) (.seq (.reg r4_2) (.seq (.reg r4_3) (.seq (.seq (.reg r4_4) (.block 0 (.seq (.kill [2, 7, 8, 9, 10, 21, 35, 41, 52, 65, 70, 71, 89, 93]) (.loop l4_32)))) (.seq (.reg r4_33) (.seq (.kill [0, 3, 4, 5, 6, 7, 8, 9, 10, 21, 35, 41, 52, 65, 70, 71, 89, 93]) .ret))))))), res := [(.tmp 2)] }
/-! calliope/calliopelaw19.VeilRows -/
def r5_0 : Reg := ⟨[⟨(some 4), (.mv (.c (.bool false))), none, 0⟩], [], 0, false, []⟩
def r5_1 : Reg := ⟨[⟨(some 5), (.mv (.c .nils)), none, 0⟩], [], 0, false, []⟩
def r5_2 : Reg := ⟨[⟨(some 6), (.mv (.c .nils)), none, 0⟩], [], 0, false, []⟩
def r5_3 : Reg := ⟨[⟨(some 13), (.build (.ints .i64 [0, 0, 0, 0, 0, 0, 0, 0, 0, 0, 0, 0, 0, 0, 0, 0, 0, 0, 0, 0, 0]) []), none, 0⟩, ⟨(some 14), (.box (.t 13)), none, 0⟩, ⟨(some 7), (.mv (.t 14)), none, 1⟩], [13, 14], 1, true, []⟩
def r5_4 : Reg := ⟨[⟨(some 8), (.mv (.c (.int .i64 0))), none, 0⟩], [], 0, false, []⟩
def r5_5 : Reg := ⟨[⟨(some 15), (.mv (.t 8)), none, 0⟩, ⟨(some 16), (.mv (.t 0)), none, 0⟩, ⟨(some 17), (.len .slice (.t 16)), none, 0⟩, ⟨(some 18), (.bin .lss (.int .i64) (.t 15) (.t 17)), none, 0⟩, ⟨(some 19), (.mv (.t 18)), none, 0⟩, ⟨(some 20), (.mv (.t 8)), (some (19, true)), 0⟩, ⟨(some 21), (.bin .lss (.int .i64) (.t 20) (.c (.int .i64 20))), (some (19, true)), 0⟩, ⟨(some 22), (.pick (.t 19) (.t 21) (.c (.bool false))), none, 0⟩], [15, 16, 17, 18, 19, 20, 21], 0, false, []⟩
def r5_6 : Reg := ⟨[⟨(some 25), (.mv (.t 0)), none, 0⟩, ⟨(some 26), (.mv (.t 8)), none, 0⟩, ⟨(some 27), (.idxS 29 (.t 25) (.t 26)), none, 0⟩, ⟨(some 28), (.load (some 29) (.t 27)), none, 0⟩, ⟨(some 29), (.call 8 [(.t 28)]), none, 0⟩, ⟨(some 9), (.alloc (.agg [(.int .i64 0), (.int .i64 0), (.int .i64 0), (.int .i64 0), .nils, (.int .i64 0), (.int .i64 0), (.int .i64 0), (.int .i64 0), (.int .i64 0), (.int .i64 0), (.int .i64 0), (.int .i64 0), (.int .i64 0), (.int .i64 0), (.int .i64 0), (.int .i64 0), (.int .i64 0), (.int .i64 0), (.int .i64 0), (.int .i64 0), (.int .i64 0), (.int .i64 0), (.int .i64 0), (.int .i64 0), (.int .i64 0), (.int .i64 0), (.int .i64 0), (.int .i64 0)])), none, 0⟩, ⟨none, (.store 29 (.t 9) (.t 29)), none, 1⟩], [25, 26, 27, 28, 29], 1, true, []⟩
def r5_7 : Reg := ⟨[⟨(some 30), (.mv (.t 8)), none, 0⟩, ⟨(some 31), (.mv (.t 1)), none, 0⟩, ⟨(some 32), (.len .slice (.t 31)), none, 0⟩, ⟨(some 33), (.bin .lss (.int .i64) (.t 30) (.t 32)), none, 0⟩, ⟨(some 34), (.mv (.t 33)), none, 0⟩, ⟨(some 35), (.mv (.t 1)), (some (34, true)), 0⟩, ⟨(some 36), (.mv (.t 8)), (some (34, true)), 0⟩, ⟨(some 37), (.idxS 1 (.t 35) (.t 36)), (some (34, true)), 0⟩, ⟨(some 38), (.load none (.t 37)), (some (34, true)), 0⟩, ⟨(some 39), (.pick (.t 34) (.t 38) (.c (.bool false))), none, 0⟩, ⟨(some 40), (.mv (.t 39)), none, 0⟩, ⟨(some 41), (.load (some 29) (.t 9)), (some (40, false)), 0⟩, ⟨(some 42), (.call 13 [(.t 41)]), (some (40, false)), 0⟩, ⟨(some 43), (.un .not (.t 42)), (some (40, false)), 0⟩, ⟨(some 44), (.pick (.t 40) (.c (.bool true)) (.t 43)), none, 0⟩], [30, 31, 32, 33, 34, 35, 36, 37, 38, 39, 40, 41, 42, 43], 0, true, []⟩
def r5_8 : Reg := ⟨[⟨(some 10), (.mv (.c .nilp)), none, 0⟩], [], 0, false, []⟩
def r5_9 : Reg := ⟨[⟨(some 45), (.mv (.t 5)), none, 0⟩, ⟨(some 46), (.mv (.t 10)), none, 0⟩, ⟨(some 47), (.bslice 1 1 .nilp [(0, 1, (.t 46))]), none, 0⟩, ⟨(some 48), (.app 1 8 (.t 45) (.t 47)), none, 1⟩, ⟨(some 5), (.mv (.t 48)), none, 2⟩], [45, 46, 47, 48], 2, true, []⟩
def r5_10 : Reg := ⟨[⟨(some 49), (.mv (.t 6)), none, 0⟩, ⟨(some 50), (.mv (.t 7)), none, 0⟩, ⟨(some 51), (.call 9 [(.t 50)]), none, 0⟩, ⟨(some 52), (.bslice 20 1 (.ints .i64 [0, 0, 0, 0, 0, 0, 0, 0, 0, 0, 0, 0, 0, 0, 0, 0, 0, 0, 0, 0]) [(0, 20, (.t 51))]), none, 0⟩, ⟨(some 53), (.app 20 160 (.t 49) (.t 52)), none, 1⟩, ⟨(some 6), (.mv (.t 53)), none, 2⟩], [49, 50, 51, 52, 53], 2, true, []⟩
def r5_11 : Reg := ⟨[⟨(some 54), (.mv (.t 5)), none, 0⟩, ⟨(some 55), (.bslice 1 1 .nilp [(0, 1, (.t 9))]), none, 0⟩, ⟨(some 56), (.app 1 8 (.t 54) (.t 55)), none, 1⟩, ⟨(some 5), (.mv (.t 56)), none, 2⟩], [54, 55, 56], 2, true, []⟩
def r5_12 : Reg := ⟨[⟨(some 57), (.mv (.t 6)), none, 0⟩, ⟨(some 58), (.mv (.t 7)), none, 0⟩, ⟨(some 59), (.load (some 29) (.t 9)), none, 0⟩, ⟨(some 60), (.call 7 [(.t 58), (.t 59)]), none, 0⟩, ⟨(some 61), (.bslice 20 1 (.ints .i64 [0, 0, 0, 0, 0, 0, 0, 0, 0, 0, 0, 0, 0, 0, 0, 0, 0, 0, 0, 0]) [(0, 20, (.t 60))]), none, 0⟩, ⟨(some 62), (.app 20 160 (.t 57) (.t 61)), none, 1⟩, ⟨(some 6), (.mv (.t 62)), none, 2⟩], [57, 58, 59, 60, 61, 62], 2, true, []⟩
def r5_13 : Reg := ⟨[⟨(some 23), (.mv (.t 8)), none, 0⟩, ⟨(some 24), (.bin .add (.int .i64) (.t 23) (.c (.int .i64 1))), none, 0⟩, ⟨(some 8), (.mv (.t 24)), none, 0⟩], [23, 24], 0, false, []⟩
def l5_14 : SC := (.seq (.seq (.seq (.reg r5_5) (.cond (.t 22) .skip (.seq (.kill [0, 1, 4, 7, 8, 9, 10, 11, 12, 22, 44, 69, 73, 84]) (.exit 0)))) (.seq (.block 1 (.seq (.reg r5_6) (.seq (.seq (.reg r5_7) (.cond (.t 44) (.seq (.reg r5_8) (.seq (.reg r5_9) (.seq (.reg r5_10) (.seq (.kill [4, 9, 10, 11, 12, 22, 44, 69, 73, 84]) (.exit 1))))) .skip)) (.seq (.reg r5_11) (.reg r5_12))))) (.reg r5_13))) (.seq (.kill [4, 9, 10, 11, 12, 22, 44, 69, 73, 84]) .tidy))
def r5_15 : Reg := ⟨[⟨(some 63), (.mv (.t 5)), none, 0⟩, ⟨(some 64), (.call 16 [(.t 63)]), none, 0⟩, ⟨(some 11), (.mv (.t 64)), none, 0⟩], [63, 64], 0, true, []⟩
def r5_16 : Reg := ⟨[⟨(some 65), (.mv (.t 11)), none, 0⟩, ⟨(some 66), (.len .slice (.t 65)), none, 0⟩, ⟨(some 67), (.mv (.t 6)), none, 0⟩, ⟨(some 68), (.len .slice (.t 67)), none, 0⟩, ⟨(some 69), (.bin .neq (.int .i64) (.t 66) (.t 68)), none, 0⟩], [65, 66, 67, 68], 0, false, []⟩
def r5_17 : Reg := ⟨[⟨(some 4), (.mv (.c (.bool false))), none, 0⟩], [], 0, false, []⟩
def r5_18 : Reg := ⟨[⟨(some 12), (.mv (.c (.int .i64 0))), none, 0⟩], [], 0, false, []⟩
def r5_19 : Reg := ⟨[⟨(some 70), (.mv (.t 12)), none, 0⟩, ⟨(some 71), (.mv (.t 11)), none, 0⟩, ⟨(some 72), (.len .slice (.t 71)), none, 0⟩, ⟨(some 73), (.bin .lss (.int .i64) (.t 70) (.t 72)), none, 0⟩], [70, 71, 72], 0, false, []⟩
def r5_20 : Reg := ⟨[⟨(some 76), (.mv (.t 11)), none, 0⟩, ⟨(some 77), (.mv (.t 12)), none, 0⟩, ⟨(some 78), (.idxS 20 (.t 76) (.t 77)), none, 0⟩, ⟨(some 79), (.load (some 20) (.t 78)), none, 0⟩, ⟨(some 80), (.mv (.t 6)), none, 0⟩, ⟨(some 81), (.mv (.t 12)), none, 0⟩, ⟨(some 82), (.idxS 20 (.t 80) (.t 81)), none, 0⟩, ⟨(some 83), (.load (some 20) (.t 82)), none, 0⟩, ⟨(some 84), (.bin .neq (.cells [(.int .i64), (.int .i64), (.int .i64), (.int .i64), (.int .i64), (.int .i64), (.int .i64), (.int .i64), (.int .i64), (.int .i64), (.int .i64), (.int .i64), (.int .i64), (.int .i64), (.int .i64), (.int .i64), (.int .i64), (.int .i64), (.int .i64), (.int .i64)]) (.t 79) (.t 83)), none, 0⟩], [76, 77, 78, 79, 80, 81, 82, 83], 0, false, []⟩
def r5_21 : Reg := ⟨[⟨(some 4), (.mv (.c (.bool false))), none, 0⟩], [], 0, false, []⟩
def r5_22 : Reg := ⟨[⟨(some 74), (.mv (.t 12)), none, 0⟩, ⟨(some 75), (.bin .add (.int .i64) (.t 74) (.c (.int .i64 1))), none, 0⟩, ⟨(some 12), (.mv (.t 75)), none, 0⟩], [74, 75], 0, false, []⟩
def l5_23 : SC := (.seq (.seq (.seq (.reg r5_19) (.cond (.t 73) .skip (.seq (.kill [0, 1, 4, 5, 6, 7, 8, 9, 10, 11, 12, 22, 44, 69, 73, 84]) (.exit 2)))) (.seq (.block 3 (.seq (.reg r5_20) (.cond (.t 84) (.seq (.reg r5_21) (.seq (.kill [0, 1, 5, 6, 7, 8, 9, 10, 11, 12, 22, 44, 69, 73, 84]) .ret)) .skip))) (.reg r5_22))) (.kill [0, 1, 4, 5, 7, 8, 9, 10, 22, 44, 69, 73, 84]))
def r5_24 : Reg := ⟨[⟨(some 85), (.callP 11 []), none, 0⟩, ⟨(some 4), (.mv (.t 85)), none, 0⟩], [85], 0, false, []⟩
def sf5 : SFn := { np := 2, vars := [0, 1, 4, 5, 6, 7, 8, 9, 10, 11, 12, 22, 44, 69, 73, 84], body := (.seq (.reg r5_0) (.seq (.reg r5_1) (.seq (.reg r5_2) (.seq (.reg r5_3) (.seq (.seq (.reg r5_4) (.block 0 (.seq (.kill [4, 9, 10, 11, 12, 22, 44, 69, 73, 84]) (.loop l5_14)))) (.seq (.reg r5_15) (.seq (.seq (.reg r5_16) (.cond (.t 69) (.seq (.reg r5_17) (.seq (.kill [0, 1, 5, 6, 7, 8, 9, 10, 11, 12, 22, 44, 69, 73, 84]) .ret)) .skip)) (.seq (.seq (.reg r5_18) (.block 2 (.seq (.kill [0, 1, 4, 5, 7, 8, 9, 10, 22, 44, 69, 73, 84]) (.loop l5_23)))) (.seq (.reg r5_24) (.seq (.kill [0, 1, 5, 6, 7, 8, 9, 10, 11, 12, 22, 44, 69, 73, 84]) .ret)))))))))), res := [(.tmp 4)] }
/-! (*calliope/veil.Veil).Clear -/
def r6_0 : Reg := ⟨[⟨(some 2), (.mv (.t 0)), none, 0⟩, ⟨(some 3), (.bin .neq .ptr (.t 2) (.c .nilp)), none, 0⟩], [2], 0, false, []⟩
def r6_1 : Reg := ⟨[⟨(some 4), (.mv (.t 0)), none, 0⟩, ⟨(some 5), (.build (.ints .i64 [0, 0, 0, 0, 0, 0, 0, 0, 0, 0, 0, 0, 0, 0, 0, 0, 0, 0, 0, 0, 0]) []), none, 0⟩, ⟨(some 6), (.nilck (.t 4)), none, 0⟩, ⟨none, (.store 21 (.t 6) (.t 5)), none, 0⟩], [4, 5, 6], 0, false, []⟩
def sf6 : SFn := { np := 1, vars := [0, 3], body := (.seq (.reg r6_0) (.cond (.t 3) (.reg r6_1) .skip)), res := [] }
/-! (*calliope/veil.Veil).Good -/
def r7_0 : Reg := ⟨[⟨(some 3), (.box (.t 1)), none, 0⟩, ⟨(some 4), (.alloc (.ints .i64 [0, 0, 0, 0, 0, 0, 0, 0, 0, 0, 0, 0, 0, 0, 0, 0, 0, 0, 0, 0])), none, 1⟩], [], 2, true, []⟩
def r7_1 : Reg := ⟨[⟨(some 5), (.mv (.t 0)), none, 0⟩, ⟨(some 6), (.bin .eql .ptr (.t 5) (.c .nilp)), none, 0⟩], [5], 0, false, []⟩
def r7_2 : Reg := ⟨[⟨(some 7), (.build (.ints .i64 [0, 0, 0, 0, 0, 0, 0, 0, 0, 0, 0, 0, 0, 0, 0, 0, 0, 0, 0, 0]) []), none, 0⟩, ⟨none, (.store 20 (.t 4) (.t 7)), none, 0⟩], [7], 0, false, []⟩
def r7_3 : Reg := ⟨[⟨(some 8), (.mv (.t 0)), none, 0⟩, ⟨(some 9), (.mv (.t 0)), none, 0⟩, ⟨(some 10), (.load (some 29) (.t 3)), none, 0⟩, ⟨(some 11), (.call 15 [(.t 10)]), none, 0⟩, ⟨(some 12), (.nilck (.t 8)), none, 0⟩, ⟨(some 13), (.fieldAddr 0 (.t 12)), none, 0⟩, ⟨none, (.store 20 (.t 13) (.t 11)), none, 0⟩, ⟨(some 14), (.nilck (.t 9)), none, 0⟩, ⟨(some 15), (.fieldAddr 20 (.t 14)), none, 0⟩, ⟨none, (.store 1 (.t 15) (.c (.int .i64 0))), none, 0⟩], [8, 9, 10, 11, 12, 13, 14, 15], 0, true, []⟩
def r7_4 : Reg := ⟨[⟨(some 16), (.mv (.t 0)), none, 0⟩, ⟨(some 17), (.nilck (.t 16)), none, 0⟩, ⟨(some 18), (.fieldAddr 0 (.t 17)), none, 0⟩, ⟨(some 19), (.load (some 20) (.t 18)), none, 0⟩, ⟨none, (.store 20 (.t 4) (.t 19)), none, 0⟩], [16, 17, 18, 19], 0, false, []⟩
def sf7 : SFn := { np := 2, vars := [0, 1, 3, 4, 6], body := (.seq (.reg r7_0) (.seq (.seq (.reg r7_1) (.cond (.t 6) (.seq (.reg r7_2) (.seq (.kill [0, 1, 3, 6]) .ret)) .skip)) (.seq (.reg r7_3) (.seq (.reg r7_4) (.seq (.kill [0, 1, 3, 6]) .ret))))), res := [(.cell 4 (some 20))] }
/-! calliope/calliopelaw10.Few -/
def r8_0 : Reg := ⟨[⟨(some 1), (.box (.t 0)), none, 0⟩, ⟨(some 2), (.alloc (.agg [(.int .i64 0), (.int .i64 0), (.int .i64 0), (.int .i64 0), .nils, (.int .i64 0), (.int .i64 0), (.int .i64 0), (.int .i64 0), (.int .i64 0), (.int .i64 0), (.int .i64 0), (.int .i64 0), (.int .i64 0), (.int .i64 0), (.int .i64 0), (.int .i64 0), (.int .i64 0), (.int .i64 0), (.int .i64 0), (.int .i64 0), (.int .i64 0), (.int .i64 0), (.int .i64 0), (.int .i64 0), (.int .i64 0), (.int .i64 0), (.int .i64 0), (.int .i64 0)])), none, 1⟩], [], 2, true, []⟩
def r8_1 : Reg := ⟨[⟨(some 3), (.fieldAddr 4 (.t 1)), none, 0⟩, ⟨(some 4), (.load none (.t 3)), none, 0⟩, ⟨(some 5), (.len .slice (.t 4)), none, 0⟩, ⟨(some 6), (.bin .gtr (.int .i64) (.t 5) (.c (.int .i64 5))), none, 0⟩], [3, 4, 5], 0, false, []⟩
def r8_2 : Reg := ⟨[⟨(some 7), (.fieldAddr 4 (.t 1)), none, 0⟩, ⟨(some 8), (.load none (.t 7)), none, 0⟩, ⟨(some 9), (.slS 2 (.t 8) none (some (.c (.int .i64 5)))), none, 0⟩, ⟨(some 10), (.fieldAddr 4 (.t 1)), none, 0⟩, ⟨none, (.store 1 (.t 10) (.t 9)), none, 0⟩], [7, 8, 9, 10], 0, false, []⟩
def r8_3 : Reg := ⟨[⟨(some 11), (.load (some 29) (.t 1)), none, 0⟩, ⟨none, (.store 29 (.t 2) (.t 11)), none, 0⟩], [11], 0, false, []⟩
def sf8 : SFn := { np := 1, vars := [0, 1, 2, 6], body := (.seq (.reg r8_0) (.seq (.seq (.reg r8_1) (.cond (.t 6) (.reg r8_2) .skip)) (.seq (.reg r8_3) (.seq (.kill [0, 1, 6]) .ret)))), res := [(.cell 2 (some 29))] }
/-! (*calliope/veil.Veil).Lose -/
def r9_0 : Reg := ⟨[⟨(some 2), (.alloc (.ints .i64 [0, 0, 0, 0, 0, 0, 0, 0, 0, 0, 0, 0, 0, 0, 0, 0, 0, 0, 0, 0])), none, 0⟩], [], 1, true, []⟩
def r9_1 : Reg := ⟨[⟨(some 5), (.mv (.t 0)), none, 0⟩, ⟨(some 6), (.bin .eql .ptr (.t 5) (.c .nilp)), none, 0⟩], [5], 0, false, []⟩
def r9_2 : Reg := ⟨[⟨(some 7), (.build (.ints .i64 [0, 0, 0, 0, 0, 0, 0, 0, 0, 0, 0, 0, 0, 0, 0, 0, 0, 0, 0, 0]) []), none, 0⟩, ⟨none, (.store 20 (.t 2) (.t 7)), none, 0⟩], [7], 0, false, []⟩
def r9_3 : Reg := ⟨[⟨(some 8), (.mv (.t 0)), none, 0⟩, ⟨(some 9), (.nilck (.t 8)), none, 0⟩, ⟨(some 10), (.fieldAddr 20 (.t 9)), none, 0⟩, ⟨(some 11), (.load none (.t 10)), none, 0⟩, ⟨(some 12), (.bin .add (.int .i64) (.t 11) (.c (.int .i64 1))), none, 0⟩, ⟨(some 13), (.nilck (.t 8)), none, 0⟩, ⟨(some 14), (.fieldAddr 20 (.t 13)), none, 0⟩, ⟨none, (.store 1 (.t 14) (.t 12)), none, 0⟩], [8, 9, 10, 11, 12, 13, 14], 0, false, []⟩
def r9_4 : Reg := ⟨[⟨(some 15), (.mv (.t 0)), none, 0⟩, ⟨(some 16), (.nilck (.t 15)), none, 0⟩, ⟨(some 17), (.fieldAddr 20 (.t 16)), none, 0⟩, ⟨(some 18), (.load none (.t 17)), none, 0⟩, ⟨(some 19), (.bin .gtr (.int .i64) (.t 18) (.c (.int .i64 4))), none, 0⟩], [15, 16, 17, 18], 0, false, []⟩
def r9_5 : Reg := ⟨[⟨(some 20), (.build (.ints .i64 [0, 0, 0, 0, 0, 0, 0, 0, 0, 0, 0, 0, 0, 0, 0, 0, 0, 0, 0, 0]) []), none, 0⟩, ⟨none, (.store 20 (.t 2) (.t 20)), none, 0⟩], [20], 0, false, []⟩
def r9_6 : Reg := ⟨[⟨(some 21), (.mv (.t 0)), none, 0⟩, ⟨(some 22), (.nilck (.t 21)), none, 0⟩, ⟨(some 23), (.fieldAddr 0 (.t 22)), none, 0⟩, ⟨(some 24), (.load (some 20) (.t 23)), none, 0⟩, ⟨(some 3), (.alloc (.ints .i64 [0, 0, 0, 0, 0, 0, 0, 0, 0, 0, 0, 0, 0, 0, 0, 0, 0, 0, 0, 0])), none, 0⟩, ⟨none, (.store 20 (.t 3) (.t 24)), none, 1⟩], [21, 22, 23, 24], 1, true, []⟩
def r9_7 : Reg := ⟨[⟨(some 25), (.mv (.c (.int .i64 0))), none, 0⟩], [], 0, false, []⟩
def r9_8 : Reg := ⟨[⟨(some 26), (.bin .lss (.int .i64) (.t 25) (.c (.int .i64 16))), none, 0⟩], [], 0, false, []⟩
def r9_9 : Reg := ⟨[⟨(some 27), (.mv (.t 25)), none, 0⟩, ⟨(some 4), (.mv (.t 27)), none, 0⟩], [27], 0, false, []⟩
def r9_10 : Reg := ⟨[⟨(some 28), (.mv (.t 4)), none, 0⟩, ⟨(some 29), (.mv (.t 4)), none, 0⟩, ⟨(some 30), (.fieldAddr 0 (.t 3)), none, 0⟩, ⟨(some 31), (.idxA 16 1 (.t 30) (.t 29)), none, 0⟩, ⟨(some 32), (.load none (.t 31)), none, 0⟩, ⟨(some 33), (.mv (.t 0)), none, 0⟩, ⟨(some 34), (.nilck (.t 33)), none, 0⟩, ⟨(some 35), (.fieldAddr 20 (.t 34)), none, 0⟩, ⟨(some 36), (.load none (.t 35)), none, 0⟩, ⟨(some 37), (.callP 17 [(.t 32), (.t 36)]), none, 0⟩, ⟨(some 38), (.fieldAddr 0 (.t 3)), none, 0⟩, ⟨(some 39), (.idxA 16 1 (.t 38) (.t 28)), none, 0⟩, ⟨none, (.store 1 (.t 39) (.t 37)), none, 0⟩], [28, 29, 30, 31, 32, 33, 34, 35, 36, 37, 38, 39], 0, false, []⟩
def r9_11 : Reg := ⟨[⟨(some 40), (.bin .add (.int .i64) (.t 25) (.c (.int .i64 1))), none, 0⟩, ⟨(some 25), (.mv (.t 40)), none, 0⟩], [40], 0, false, []⟩
def l9_12 : SC := (.seq (.seq (.reg r9_8) (.seq (.cond (.t 26) .skip (.seq (.kill [0, 4, 6, 19, 25, 26]) (.exit 0))) (.seq (.block 1 (.seq (.reg r9_9) (.reg r9_10))) (.reg r9_11)))) (.kill [4, 6, 19, 26]))
def r9_13 : Reg := ⟨[⟨(some 41), (.load (some 20) (.t 3)), none, 0⟩, ⟨none, (.store 20 (.t 2) (.t 41)), none, 0⟩], [41], 0, false, []⟩
def sf9 : SFn := { np := 1, vars := [0, 2, 3, 4, 6, 19, 25, 26], body := (.seq (.reg r9_0) (.seq (.seq (.reg r9_1) (.cond (.t 6) (.seq (.reg r9_2) (.seq (.kill [0, 3, 4, 6, 19, 25, 26]) .ret)) .skip)) (.seq (.reg r9_3) (.seq (.seq (.reg r9_4) (.cond (.t 19) (.seq (.reg r9_5) (.seq (.kill [0, 3, 4, 6, 19, 25, 26]) .ret)) .skip)) (.seq (.reg r9_6) (.seq (.seq (.reg r9_7) (.block 0 (.seq (.kill [4, 6, 19, 26]) (.loop l9_12)))) (.seq (.reg r9_13) (.seq (.kill [0, 3, 4, 6, 19, 25, 26]) .ret)))))))), res := [(.cell 2 (some 20))] }
/-! (*calliope/veil.Veil).Lost -/
def r10_0 : Reg := ⟨[⟨(some 2), (.mv (.c (.int .i64 0))), none, 0⟩], [], 0, false, []⟩
def r10_1 : Reg := ⟨[⟨(some 3), (.mv (.t 0)), none, 0⟩, ⟨(some 4), (.bin .eql .ptr (.t 3) (.c .nilp)), none, 0⟩], [3], 0, false, []⟩
def r10_2 : Reg := ⟨[⟨(some 2), (.mv (.c (.int .i64 0))), none, 0⟩], [], 0, false, []⟩
def r10_3 : Reg := ⟨[⟨(some 5), (.mv (.t 0)), none, 0⟩, ⟨(some 6), (.nilck (.t 5)), none, 0⟩, ⟨(some 7), (.fieldAddr 20 (.t 6)), none, 0⟩, ⟨(some 8), (.load none (.t 7)), none, 0⟩, ⟨(some 2), (.mv (.t 8)), none, 0⟩], [5, 6, 7, 8], 0, false, []⟩
def sf10 : SFn := { np := 1, vars := [0, 2, 4], body := (.seq (.reg r10_0) (.seq (.seq (.reg r10_1) (.cond (.t 4) (.seq (.reg r10_2) (.seq (.kill [0, 4]) .ret)) .skip)) (.seq (.reg r10_3) (.seq (.kill [0, 4]) .ret)))), res := [(.tmp 2)] }
/-! calliope/calliopelaw19.awake -/
def r11_0 : Reg := ⟨[⟨(some 0), (.mv (.c (.bool false))), none, 0⟩], [], 0, false, []⟩
def r11_1 : Reg := ⟨[⟨(some 4), (.build (.ints .i64 [0, 0, 0, 0, 0, 0, 0, 0, 0, 0, 0, 0, 0, 0, 0, 0, 0, 0, 0, 0, 0]) []), none, 0⟩, ⟨(some 5), (.box (.t 4)), none, 0⟩, ⟨(some 1), (.mv (.t 5)), none, 1⟩], [4, 5], 1, true, []⟩
def r11_2 : Reg := ⟨[⟨(some 6), (.mv (.t 1)), none, 0⟩, ⟨(some 7), (.build (.ints .i64 [0, 0]) [(0, 1, (.c (.int .i64 0))), (1, 1, (.c (.int .i64 100)))]), none, 0⟩, ⟨(some 8), (.bslice 2 1 (.ints .i64 [0, 0]) [(0, 2, (.t 7))]), none, 0⟩, ⟨(some 9), (.build (.agg [(.int .i64 0), (.int .i64 0), (.int .i64 0), (.int .i64 0), .nils, (.int .i64 0), (.int .i64 0), (.int .i64 0), (.int .i64 0), (.int .i64 0), (.int .i64 0), (.int .i64 0), (.int .i64 0), (.int .i64 0), (.int .i64 0), (.int .i64 0), (.int .i64 0), (.int .i64 0), (.int .i64 0), (.int .i64 0), (.int .i64 0), (.int .i64 0), (.int .i64 0), (.int .i64 0), (.int .i64 0), (.int .i64 0), (.int .i64 0), (.int .i64 0), (.int .i64 0)]) [(4, 1, (.t 8))]), none, 1⟩, ⟨(some 10), (.call 7 [(.t 6), (.t 9)]), none, 1⟩, ⟨(some 2), (.alloc (.ints .i64 [0, 0, 0, 0, 0, 0, 0, 0, 0, 0, 0, 0, 0, 0, 0, 0, 0, 0, 0, 0])), none, 1⟩, ⟨none, (.store 20 (.t 2) (.t 10)), none, 2⟩], [6, 7, 8, 9, 10], 2, true, []⟩
def r11_3 : Reg := ⟨[⟨(some 11), (.mv (.t 1)), none, 0⟩, ⟨(some 12), (.call 9 [(.t 11)]), none, 0⟩, ⟨(some 3), (.alloc (.ints .i64 [0, 0, 0, 0, 0, 0, 0, 0, 0, 0, 0, 0, 0, 0, 0, 0, 0, 0, 0, 0])), none, 0⟩, ⟨none, (.store 20 (.t 3) (.t 12)), none, 1⟩], [11, 12], 1, true, []⟩
def r11_4 : Reg := ⟨[⟨(some 13), (.fieldAddr 0 (.t 2)), none, 0⟩, ⟨(some 14), (.idxA 16 1 (.t 13) (.c (.int .i64 0))), none, 0⟩, ⟨(some 15), (.load none (.t 14)), none, 0⟩, ⟨(some 16), (.bin .eql (.int .i64) (.t 15) (.c (.int .i64 100))), none, 0⟩, ⟨(some 17), (.mv (.t 16)), none, 0⟩, ⟨(some 18), (.fieldAddr 0 (.t 3)), (some (17, true)), 0⟩, ⟨(some 19), (.idxA 16 1 (.t 18) (.c (.int .i64 0))), (some (17, true)), 0⟩, ⟨(some 20), (.load none (.t 19)), (some (17, true)), 0⟩, ⟨(some 21), (.bin .eql (.int .i64) (.t 20) (.c (.int .i64 50))), (some (17, true)), 0⟩, ⟨(some 22), (.pick (.t 17) (.t 21) (.c (.bool false))), none, 0⟩, ⟨(some 23), (.mv (.t 22)), none, 0⟩, ⟨(some 24), (.mv (.t 1)), (some (23, true)), 0⟩, ⟨(some 25), (.call 10 [(.t 24)]), (some (23, true)), 0⟩, ⟨(some 26), (.bin .eql (.int .i64) (.t 25) (.c (.int .i64 1))), (some (23, true)), 0⟩, ⟨(some 27), (.pick (.t 23) (.t 26) (.c (.bool false))), none, 0⟩, ⟨(some 0), (.mv (.t 27)), none, 0⟩], [13, 14, 15, 16, 17, 18, 19, 20, 21, 22, 23, 24, 25, 26, 27], 0, true, []⟩
def sf11 : SFn := { np := 0, vars := [0, 1, 2, 3], body := (.seq (.reg r11_0) (.seq (.reg r11_1) (.seq (.reg r11_2) (.seq (.reg r11_3) (.seq (.reg r11_4) (.seq (.kill [1, 2, 3]) .ret)))))), res := [(.tmp 0)] }
/-! calliope/calliopelaw19.half -/
def r12_0 : Reg := ⟨[⟨(some 4), (.mv (.c (.int .i64 0))), none, 0⟩], [], 0, false, []⟩
def r12_1 : Reg := ⟨[⟨(some 5), (.mv (.c (.int .i64 0))), none, 0⟩], [], 0, false, []⟩
def r12_2 : Reg := ⟨[⟨(some 6), (.mv (.t 5)), none, 0⟩, ⟨(some 7), (.mv (.t 1)), none, 0⟩, ⟨(some 8), (.bin .lss (.int .i64) (.t 6) (.t 7)), none, 0⟩], [6, 7], 0, false, []⟩
def r12_3 : Reg := ⟨[⟨(some 11), (.mv (.t 0)), none, 0⟩, ⟨(some 12), (.bin .quo (.int .i64) (.t 11) (.c (.int .i64 2))), none, 0⟩, ⟨(some 0), (.mv (.t 12)), none, 0⟩], [11, 12], 0, false, []⟩
def r12_4 : Reg := ⟨[⟨(some 9), (.mv (.t 5)), none, 0⟩, ⟨(some 10), (.bin .add (.int .i64) (.t 9) (.c (.int .i64 1))), none, 0⟩, ⟨(some 5), (.mv (.t 10)), none, 0⟩], [9, 10], 0, false, []⟩
def l12_5 : SC := (.seq (.seq (.seq (.reg r12_2) (.cond (.t 8) .skip (.seq (.kill [1, 4, 5, 8]) (.exit 0)))) (.seq (.block 1 (.reg r12_3)) (.reg r12_4))) (.kill [4, 8]))
def r12_6 : Reg := ⟨[⟨(some 13), (.mv (.t 0)), none, 0⟩, ⟨(some 4), (.mv (.t 13)), none, 0⟩], [13], 0, false, []⟩
def sf12 : SFn := { np := 2, vars := [0, 1, 4, 5, 8], body := (.seq (.reg r12_0) (.seq (.seq (.reg r12_1) (.block 0 (.seq (.kill [4, 8]) (.loop l12_5)))) (.seq (.reg r12_6) (.seq (.kill [0, 1, 5, 8]) .ret)))), res := [(.tmp 4)] }
/-! calliope/frame.Right -/
def r13_0 : Reg := ⟨[⟨(some 1), (.box (.t 0)), none, 0⟩, ⟨(some 2), (.mv (.c (.bool false))), none, 1⟩], [], 1, true, []⟩
def r13_1 : Reg := ⟨[⟨(some 7), (.fieldAddr 0 (.t 1)), none, 0⟩, ⟨(some 8), (.load (some 4) (.t 7)), none, 0⟩, ⟨(some 9), (.callP 18 [(.t 8)]), none, 0⟩, ⟨(some 10), (.un .not (.t 9)), none, 0⟩, ⟨(some 11), (.mv (.t 10)), none, 0⟩, ⟨(some 12), (.fieldAddr 4 (.t 1)), (some (11, false)), 0⟩, ⟨(some 13), (.load none (.t 12)), (some (11, false)), 0⟩, ⟨(some 14), (.call 19 [(.t 13)]), (some (11, false)), 0⟩, ⟨(some 15), (.un .not (.t 14)), (some (11, false)), 0⟩, ⟨(some 16), (.pick (.t 11) (.c (.bool true)) (.t 15)), none, 0⟩, ⟨(some 17), (.mv (.t 16)), none, 0⟩, ⟨(some 18), (.fieldAddr 5 (.t 1)), (some (17, false)), 0⟩, ⟨(some 19), (.load (some 4) (.t 18)), (some (17, false)), 0⟩, ⟨(some 20), (.callP 20 [(.t 19)]), (some (17, false)), 0⟩, ⟨(some 21), (.un .not (.t 20)), (some (17, false)), 0⟩, ⟨(some 22), (.pick (.t 17) (.c (.bool true)) (.t 21)), none, 0⟩], [7, 8, 9, 10, 11, 12, 13, 14, 15, 16, 17, 18, 19, 20, 21], 0, true, []⟩
def r13_2 : Reg := ⟨[⟨(some 2), (.mv (.c (.bool false))), none, 0⟩], [], 0, false, []⟩
def r13_3 : Reg := ⟨[⟨(some 23), (.fieldAddr 9 (.t 1)), none, 0⟩, ⟨(some 24), (.load (some 4) (.t 23)), none, 0⟩, ⟨(some 25), (.mv (.c (.int .i64 0))), none, 0⟩], [23], 0, false, []⟩
def r13_4 : Reg := ⟨[⟨(some 26), (.bin .lss (.int .i64) (.t 25) (.c (.int .i64 4))), none, 0⟩], [], 0, false, []⟩
def r13_5 : Reg := ⟨[⟨(some 27), (.mv (.t 25)), none, 0⟩, ⟨(some 28), (.idxV 4 1 false (.t 24) (.t 25)), none, 0⟩, ⟨(some 3), (.mv (.t 27)), none, 0⟩, ⟨(some 4), (.mv (.t 28)), none, 0⟩], [27, 28], 0, false, []⟩
def r13_6 : Reg := ⟨[⟨(some 29), (.mv (.t 4)), none, 0⟩, ⟨(some 30), (.bin .lss (.int .i64) (.t 29) (.c (.int .i64 0))), none, 0⟩, ⟨(some 31), (.mv (.t 30)), none, 0⟩, ⟨(some 32), (.mv (.t 4)), (some (31, false)), 0⟩, ⟨(some 33), (.bin .gtr (.int .i64) (.t 32) (.c (.int .i64 24))), (some (31, false)), 0⟩, ⟨(some 34), (.pick (.t 31) (.c (.bool true)) (.t 33)), none, 0⟩], [29, 30, 31, 32, 33], 0, false, []⟩
def r13_7 : Reg := ⟨[⟨(some 2), (.mv (.c (.bool false))), none, 0⟩], [], 0, false, []⟩
def r13_8 : Reg := ⟨[⟨(some 35), (.fieldAddr 13 (.t 1)), none, 0⟩, ⟨(some 36), (.mv (.t 3)), none, 0⟩, ⟨(some 37), (.bin .mul (.int .i64) (.t 36) (.c (.int .i64 4))), none, 0⟩, ⟨(some 38), (.mv (.t 3)), none, 0⟩, ⟨(some 39), (.bin .add (.int .i64) (.t 38) (.c (.int .i64 1))), none, 0⟩, ⟨(some 40), (.bin .mul (.int .i64) (.t 39) (.c (.int .i64 4))), none, 0⟩, ⟨(some 41), (.slA 16 1 (.t 35) (some (.t 37)) (some (.t 40))), none, 0⟩, ⟨(some 42), (.len .slice (.t 41)), none, 0⟩, ⟨(some 43), (.mv (.c (.int .i64 0))), none, 0⟩], [35, 36, 37, 38, 39, 40], 0, false, []⟩
def r13_9 : Reg := ⟨[⟨(some 44), (.bin .lss (.int .i64) (.t 43) (.t 42)), none, 0⟩], [], 0, false, []⟩
def r13_10 : Reg := ⟨[⟨(some 45), (.idxS 1 (.t 41) (.t 43)), none, 0⟩, ⟨(some 46), (.load none (.t 45)), none, 0⟩, ⟨(some 6), (.mv (.t 46)), none, 0⟩], [45, 46], 0, false, []⟩
def r13_11 : Reg := ⟨[⟨(some 47), (.mv (.t 6)), none, 0⟩, ⟨(some 48), (.mv (.t 4)), none, 0⟩, ⟨(some 49), (.callP 21 [(.t 47), (.t 48)]), none, 0⟩, ⟨(some 50), (.un .not (.t 49)), none, 0⟩], [47, 48, 49], 0, false, []⟩
def r13_12 : Reg := ⟨[⟨(some 2), (.mv (.c (.bool false))), none, 0⟩], [], 0, false, []⟩
def r13_13 : Reg := ⟨[⟨(some 51), (.bin .add (.int .i64) (.t 43) (.c (.int .i64 1))), none, 0⟩, ⟨(some 43), (.mv (.t 51)), none, 0⟩], [51], 0, false, []⟩
def l13_14 : SC := (.seq (.seq (.reg r13_9) (.seq (.cond (.t 44) .skip (.seq (.kill [0, 2, 3, 4, 6, 22, 26, 34, 41, 42, 43, 44, 50]) (.exit 2))) (.seq (.block 3 (.seq (.reg r13_10) (.seq (.reg r13_11) (.cond (.t 50) (.seq (.reg r13_12) (.seq (.kill [0, 1, 3, 4, 6, 22, 24, 25, 26, 34, 41, 42, 43, 44, 50]) .ret)) .skip)))) (.reg r13_13)))) (.kill [0, 2, 3, 6, 22, 26, 34, 44, 50]))
def r13_15 : Reg := ⟨[⟨(some 52), (.bin .add (.int .i64) (.t 25) (.c (.int .i64 1))), none, 0⟩, ⟨(some 25), (.mv (.t 52)), none, 0⟩], [52], 0, false, []⟩
def l13_16 : SC := (.seq (.seq (.reg r13_4) (.seq (.cond (.t 26) .skip (.seq (.kill [0, 1, 2, 3, 4, 6, 22, 24, 25, 26, 34, 41, 42, 43, 44, 50]) (.exit 0))) (.seq (.block 1 (.seq (.reg r13_5) (.seq (.seq (.reg r13_6) (.cond (.t 34) (.seq (.reg r13_7) (.seq (.kill [0, 1, 3, 4, 6, 22, 24, 25, 26, 34, 41, 42, 43, 44, 50]) .ret)) .skip)) (.seq (.reg r13_8) (.block 2 (.seq (.kill [0, 2, 3, 6, 22, 26, 34, 44, 50]) (.loop l13_14))))))) (.reg r13_15)))) (.kill [0, 2, 3, 4, 6, 22, 26, 34, 41, 42, 43, 44, 50]))
def r13_17 : Reg := ⟨[⟨(some 2), (.mv (.c (.bool true))), none, 0⟩], [], 0, false, []⟩
def sf13 : SFn := { np := 1, vars := [0, 1, 2, 3, 4, 6, 22, 24, 25, 26, 34, 41, 42, 43, 44, 50], body := (.seq (.reg r13_0) (.seq (.seq (.reg r13_1) (.cond (.t 22) (.seq (.reg r13_2) (.seq (.kill [0, 1, 3, 4, 6, 22, 24, 25, 26, 34, 41, 42, 43, 44, 50]) .ret)) .skip)) (.seq (.seq (.reg r13_3) (.block 0 (.seq (.kill [0, 2, 3, 4, 6, 22, 26, 34, 41, 42, 43, 44, 50]) (.loop l13_16)))) (.seq (.reg r13_17) (.seq (.kill [0, 1, 3, 4, 6, 22, 24, 25, 26, 34, 41, 42, 43, 44, 50]) .ret))))), res := [(.tmp 2)] }
/-! calliope/frame.Spectrum -/
def r14_0 : Reg := ⟨[⟨(some 1), (.box (.t 0)), none, 0⟩, ⟨(some 2), (.alloc (.ints .i64 [0, 0, 0, 0, 0, 0, 0, 0, 0, 0, 0, 0, 0, 0, 0, 0])), none, 1⟩], [], 2, true, []⟩
def r14_1 : Reg := ⟨[⟨(some 8), (.fieldAddr 13 (.t 1)), none, 0⟩, ⟨(some 9), (.load (some 16) (.t 8)), none, 0⟩, ⟨(some 10), (.fieldAddr 5 (.t 1)), none, 0⟩, ⟨(some 11), (.load (some 4) (.t 10)), none, 0⟩, ⟨(some 12), (.callP 22 [(.t 9), (.t 11)]), none, 0⟩, ⟨(some 3), (.alloc (.ints .i64 [0, 0, 0, 0, 0, 0, 0, 0, 0, 0, 0, 0, 0, 0, 0, 0])), none, 0⟩, ⟨none, (.store 16 (.t 3) (.t 12)), none, 1⟩], [8, 9, 10, 11, 12], 1, true, []⟩
def r14_2 : Reg := ⟨[⟨(some 13), (.fieldAddr 4 (.t 1)), none, 0⟩, ⟨(some 14), (.load none (.t 13)), none, 0⟩, ⟨(some 15), (.len .slice (.t 14)), none, 0⟩, ⟨(some 16), (.mv (.c (.int .i64 0))), none, 0⟩], [13], 0, false, []⟩
def r14_3 : Reg := ⟨[⟨(some 17), (.bin .lss (.int .i64) (.t 16) (.t 15)), none, 0⟩], [], 0, false, []⟩
def r14_4 : Reg := ⟨[⟨(some 18), (.idxS 2 (.t 14) (.t 16)), none, 0⟩, ⟨(some 19), (.load (some 2) (.t 18)), none, 0⟩, ⟨(some 5), (.alloc (.ints .i64 [0, 0])), none, 0⟩, ⟨none, (.store 2 (.t 5) (.t 19)), none, 1⟩], [18, 19], 1, true, []⟩
def r14_5 : Reg := ⟨[⟨(some 20), (.fieldAddr 0 (.t 5)), none, 0⟩, ⟨(some 21), (.load none (.t 20)), none, 0⟩, ⟨(some 22), (.bin .geq (.int .i64) (.t 21) (.c (.int .i64 0))), none, 0⟩, ⟨(some 23), (.mv (.t 22)), none, 0⟩, ⟨(some 24), (.fieldAddr 0 (.t 5)), (some (23, true)), 0⟩, ⟨(some 25), (.load none (.t 24)), (some (23, true)), 0⟩, ⟨(some 26), (.bin .lss (.int .i64) (.t 25) (.c (.int .i64 16))), (some (23, true)), 0⟩, ⟨(some 27), (.pick (.t 23) (.t 26) (.c (.bool false))), none, 0⟩], [20, 21, 22, 23, 24, 25, 26], 0, false, []⟩
def r14_6 : Reg := ⟨[⟨(some 28), (.fieldAddr 0 (.t 5)), none, 0⟩, ⟨(some 29), (.load none (.t 28)), none, 0⟩, ⟨(some 30), (.idxA 16 1 (.t 3) (.t 29)), none, 0⟩, ⟨(some 31), (.load none (.t 30)), none, 0⟩, ⟨(some 32), (.fieldAddr 1 (.t 5)), none, 0⟩, ⟨(some 33), (.load none (.t 32)), none, 0⟩, ⟨(some 34), (.bin .add (.int .i64) (.t 31) (.t 33)), none, 0⟩, ⟨(some 35), (.idxA 16 1 (.t 3) (.t 29)), none, 0⟩, ⟨none, (.store 1 (.t 35) (.t 34)), none, 0⟩], [28, 29, 30, 31, 32, 33, 34, 35], 0, false, []⟩
def r14_7 : Reg := ⟨[⟨(some 36), (.bin .add (.int .i64) (.t 16) (.c (.int .i64 1))), none, 0⟩, ⟨(some 16), (.mv (.t 36)), none, 0⟩], [36], 0, false, []⟩
def l14_8 : SC := (.seq (.seq (.reg r14_3) (.seq (.cond (.t 17) .skip (.seq (.kill [0, 1, 5, 6, 7, 14, 15, 16, 17, 27, 37, 38, 39]) (.exit 0))) (.seq (.block 1 (.seq (.reg r14_4) (.seq (.reg r14_5) (.cond (.t 27) (.reg r14_6) .skip)))) (.reg r14_7)))) (.seq (.kill [0, 1, 5, 6, 7, 17, 27, 37, 38, 39]) .tidy))
def r14_9 : Reg := ⟨[⟨(some 37), (.load (some 16) (.t 3)), none, 0⟩, ⟨(some 38), (.mv (.c (.int .i64 0))), none, 0⟩], [], 0, false, []⟩
def r14_10 : Reg := ⟨[⟨(some 39), (.bin .lss (.int .i64) (.t 38) (.c (.int .i64 16))), none, 0⟩], [], 0, false, []⟩
def r14_11 : Reg := ⟨[⟨(some 40), (.mv (.t 38)), none, 0⟩, ⟨(some 41), (.idxV 16 1 false (.t 37) (.t 38)), none, 0⟩, ⟨(some 6), (.mv (.t 40)), none, 0⟩, ⟨(some 7), (.mv (.t 41)), none, 0⟩], [40, 41], 0, false, []⟩
def r14_12 : Reg := ⟨[⟨(some 42), (.mv (.t 6)), none, 0⟩, ⟨(some 43), (.mv (.t 7)), none, 0⟩, ⟨(some 44), (.callP 23 [(.t 43), (.c (.int .i64 (-2147483648))), (.c (.int .i64 2147483648))]), none, 0⟩, ⟨(some 45), (.idxA 16 1 (.t 3) (.t 42)), none, 0⟩, ⟨none, (.store 1 (.t 45) (.t 44)), none, 0⟩], [42, 43, 44, 45], 0, false, []⟩
def r14_13 : Reg := ⟨[⟨(some 46), (.bin .add (.int .i64) (.t 38) (.c (.int .i64 1))), none, 0⟩, ⟨(some 38), (.mv (.t 46)), none, 0⟩], [46], 0, false, []⟩
def l14_14 : SC := (.seq (.seq (.reg r14_10) (.seq (.cond (.t 39) .skip (.seq (.kill [0, 1, 5, 6, 7, 14, 15, 16, 17, 27, 37, 38, 39]) (.exit 2))) (.seq (.block 3 (.seq (.reg r14_11) (.reg r14_12))) (.reg r14_13)))) (.kill [0, 1, 5, 6, 7, 14, 15, 16, 17, 27, 39]))
def r14_15 : Reg := ⟨[⟨(some 47), (.load (some 16) (.t 3)), none, 0⟩, ⟨none, (.store 16 (.t 2) (.t 47)), none, 0⟩], [47], 0, false, []⟩
def sf14 : SFn := { np := 1, vars := [0, 1, 2, 3, 5, 6, 7, 14, 15, 16, 17, 27, 37, 38, 39], body := (.seq (.reg r14_0) (.seq (.reg r14_1) (.seq (.seq (.reg r14_2) (.block 0 (.seq (.kill [0, 1, 5, 6, 7, 17, 27, 37, 38, 39]) (.loop l14_8)))) (.seq (.seq (.reg r14_9) (.block 2 (.seq (.kill [0, 1, 5, 6, 7, 14, 15, 16, 17, 27, 39]) (.loop l14_14)))) (.seq (.reg r14_15) (.seq (.kill [0, 1, 3, 5, 6, 7, 14, 15, 16, 17, 27, 37, 38, 39]) .ret)))))), res := [(.cell 2 (some 16))] }
/-! calliope/veil.Of -/
def r15_0 : Reg := ⟨[⟨(some 1), (.box (.t 0)), none, 0⟩, ⟨(some 2), (.alloc (.ints .i64 [0, 0, 0, 0, 0, 0, 0, 0, 0, 0, 0, 0, 0, 0, 0, 0, 0, 0, 0, 0])), none, 1⟩], [], 2, true, []⟩
def r15_1 : Reg := ⟨[⟨(some 3), (.load (some 29) (.t 1)), none, 0⟩, ⟨(some 4), (.call 14 [(.t 3)]), none, 0⟩, ⟨(some 5), (.fieldAddr 0 (.t 1)), none, 0⟩, ⟨(some 6), (.load (some 4) (.t 5)), none, 0⟩, ⟨(some 7), (.build (.ints .i64 [0, 0, 0, 0, 0, 0, 0, 0, 0, 0, 0, 0, 0, 0, 0, 0, 0, 0, 0, 0]) [(0, 16, (.t 4)), (16, 4, (.t 6))]), none, 0⟩, ⟨none, (.store 20 (.t 2) (.t 7)), none, 0⟩], [3, 4, 5, 6, 7], 0, true, [(1, 3)]⟩
def sf15 : SFn := { np := 1, vars := [0, 1, 2], body := (.seq (.reg r15_0) (.seq (.reg r15_1) (.seq (.kill [0, 1]) .ret))), res := [(.cell 2 (some 20))] }
/-! calliope/veil.Row -/
def r16_0 : Reg := ⟨[⟨(some 2), (.mv (.c .nils)), none, 0⟩], [], 0, false, []⟩
def r16_1 : Reg := ⟨[⟨(some 7), (.build (.ints .i64 [0, 0, 0, 0, 0, 0, 0, 0, 0, 0, 0, 0, 0, 0, 0, 0, 0, 0, 0, 0, 0]) []), none, 0⟩, ⟨(some 8), (.box (.t 7)), none, 0⟩, ⟨(some 3), (.mv (.t 8)), none, 1⟩], [7, 8], 1, true, []⟩
def r16_2 : Reg := ⟨[⟨(some 4), (.mv (.c .nils)), none, 0⟩], [], 0, false, []⟩
def r16_3 : Reg := ⟨[⟨(some 9), (.mv (.t 0)), none, 0⟩, ⟨(some 10), (.len .slice (.t 9)), none, 0⟩, ⟨(some 11), (.mv (.c (.int .i64 0))), none, 0⟩], [], 0, false, []⟩
def r16_4 : Reg := ⟨[⟨(some 12), (.bin .lss (.int .i64) (.t 11) (.t 10)), none, 0⟩], [], 0, false, []⟩
def r16_5 : Reg := ⟨[⟨(some 13), (.idxS 1 (.t 9) (.t 11)), none, 0⟩, ⟨(some 14), (.load none (.t 13)), none, 0⟩, ⟨(some 6), (.mv (.t 14)), none, 0⟩], [13, 14], 0, false, []⟩
def r16_6 : Reg := ⟨[⟨(some 15), (.mv (.t 6)), none, 0⟩, ⟨(some 16), (.bin .eql .ptr (.t 15) (.c .nilp)), none, 0⟩], [15], 0, false, []⟩
def r16_7 : Reg := ⟨[⟨(some 17), (.mv (.t 4)), none, 0⟩, ⟨(some 18), (.mv (.t 3)), none, 0⟩, ⟨(some 19), (.call 9 [(.t 18)]), none, 0⟩, ⟨(some 20), (.bslice 20 1 (.ints .i64 [0, 0, 0, 0, 0, 0, 0, 0, 0, 0, 0, 0, 0, 0, 0, 0, 0, 0, 0, 0]) [(0, 20, (.t 19))]), none, 0⟩, ⟨(some 21), (.app 20 160 (.t 17) (.t 20)), none, 1⟩, ⟨(some 4), (.mv (.t 21)), none, 2⟩], [17, 18, 19, 20, 21], 2, true, []⟩
def r16_8 : Reg := ⟨[⟨(some 22), (.mv (.t 4)), none, 0⟩, ⟨(some 23), (.mv (.t 3)), none, 0⟩, ⟨(some 24), (.mv (.t 6)), none, 0⟩, ⟨(some 25), (.nilck (.t 24)), none, 0⟩, ⟨(some 26), (.load (some 29) (.t 25)), none, 0⟩, ⟨(some 27), (.call 7 [(.t 23), (.t 26)]), none, 0⟩, ⟨(some 28), (.bslice 20 1 (.ints .i64 [0, 0, 0, 0, 0, 0, 0, 0, 0, 0, 0, 0, 0, 0, 0, 0, 0, 0, 0, 0]) [(0, 20, (.t 27))]), none, 0⟩, ⟨(some 29), (.app 20 160 (.t 22) (.t 28)), none, 1⟩, ⟨(some 4), (.mv (.t 29)), none, 2⟩], [22, 23, 24, 25, 26, 27, 28, 29], 2, true, []⟩
def r16_9 : Reg := ⟨[⟨(some 30), (.bin .add (.int .i64) (.t 11) (.c (.int .i64 1))), none, 0⟩, ⟨(some 11), (.mv (.t 30)), none, 0⟩], [30], 0, false, []⟩
def l16_10 : SC := (.seq (.seq (.reg r16_4) (.seq (.cond (.t 12) .skip (.seq (.kill [0, 2, 3, 6, 9, 10, 11, 12, 16]) (.exit 0))) (.seq (.block 1 (.seq (.reg r16_5) (.seq (.seq (.reg r16_6) (.cond (.t 16) (.seq (.reg r16_7) (.seq (.kill [0, 2, 6, 12, 16]) (.exit 1))) .skip)) (.reg r16_8)))) (.reg r16_9)))) (.seq (.kill [0, 2, 6, 12, 16]) .tidy))
def r16_11 : Reg := ⟨[⟨(some 31), (.mv (.t 4)), none, 0⟩, ⟨(some 2), (.mv (.t 31)), none, 0⟩], [31], 0, false, []⟩
def sf16 : SFn := { np := 1, vars := [0, 2, 3, 4, 6, 9, 10, 11, 12, 16], body := (.seq (.reg r16_0) (.seq (.reg r16_1) (.seq (.reg r16_2) (.seq (.seq (.reg r16_3) (.block 0 (.seq (.kill [0, 2, 6, 12, 16]) (.loop l16_10)))) (.seq (.reg r16_11) (.seq (.kill [0, 3, 4, 6, 9, 10, 11, 12, 16]) .ret)))))), res := [(.tmp 2)] }
/-! calliope/num.Cut -/
def r17_0 : Reg := ⟨[⟨(some 4), (.mv (.c (.int .i64 0))), none, 0⟩], [], 0, false, []⟩
def r17_1 : Reg := ⟨[⟨(some 5), (.mv (.t 1)), none, 0⟩, ⟨(some 6), (.bin .lss (.int .i64) (.t 5) (.c (.int .i64 0))), none, 0⟩, ⟨(some 7), (.mv (.t 6)), none, 0⟩, ⟨(some 8), (.mv (.t 1)), (some (7, false)), 0⟩, ⟨(some 9), (.bin .gtr (.int .i64) (.t 8) (.c (.int .i64 62))), (some (7, false)), 0⟩, ⟨(some 10), (.pick (.t 7) (.c (.bool true)) (.t 9)), none, 0⟩], [5, 6, 7, 8, 9], 0, false, []⟩
def r17_2 : Reg := ⟨[⟨(some 4), (.mv (.c (.int .i64 0))), none, 0⟩], [], 0, false, []⟩
def r17_3 : Reg := ⟨[⟨(some 11), (.mv (.t 0)), none, 0⟩, ⟨(some 12), (.mv (.t 1)), none, 0⟩, ⟨(some 13), (.bin .shl (.int .i64) (.c (.int .i64 1)) (.t 12)), none, 0⟩, ⟨(some 14), (.bin .quo (.int .i64) (.t 11) (.t 13)), none, 0⟩, ⟨(some 4), (.mv (.t 14)), none, 0⟩], [11, 12, 13, 14], 0, false, []⟩
def sf17 : SFn := { np := 2, vars := [0, 1, 4, 10], body := (.seq (.reg r17_0) (.seq (.seq (.reg r17_1) (.cond (.t 10) (.seq (.reg r17_2) (.seq (.kill [0, 1, 10]) .ret)) .skip)) (.seq (.reg r17_3) (.seq (.kill [0, 1, 10]) .ret)))), res := [(.tmp 4)] }
/-! calliope/gain.Right -/
def r18_0 : Reg := ⟨[⟨(some 1), (.box (.t 0)), none, 0⟩, ⟨(some 2), (.mv (.c (.bool false))), none, 1⟩], [], 1, true, []⟩
def r18_1 : Reg := ⟨[⟨(some 5), (.load (some 4) (.t 1)), none, 0⟩, ⟨(some 6), (.mv (.c (.int .i64 0))), none, 0⟩], [], 0, false, []⟩
def r18_2 : Reg := ⟨[⟨(some 7), (.bin .lss (.int .i64) (.t 6) (.c (.int .i64 4))), none, 0⟩], [], 0, false, []⟩
def r18_3 : Reg := ⟨[⟨(some 8), (.idxV 4 1 false (.t 5) (.t 6)), none, 0⟩, ⟨(some 4), (.mv (.t 8)), none, 0⟩], [8], 0, false, []⟩
def r18_4 : Reg := ⟨[⟨(some 9), (.mv (.t 4)), none, 0⟩, ⟨(some 10), (.bin .lss (.int .i64) (.t 9) (.c (.int .i64 0))), none, 0⟩, ⟨(some 11), (.mv (.t 10)), none, 0⟩, ⟨(some 12), (.mv (.t 4)), (some (11, false)), 0⟩, ⟨(some 13), (.bin .gtr (.int .i64) (.t 12) (.c (.int .i64 3))), (some (11, false)), 0⟩, ⟨(some 14), (.pick (.t 11) (.c (.bool true)) (.t 13)), none, 0⟩], [9, 10, 11, 12, 13], 0, false, []⟩
def r18_5 : Reg := ⟨[⟨(some 2), (.mv (.c (.bool false))), none, 0⟩], [], 0, false, []⟩
def r18_6 : Reg := ⟨[⟨(some 15), (.bin .add (.int .i64) (.t 6) (.c (.int .i64 1))), none, 0⟩, ⟨(some 6), (.mv (.t 15)), none, 0⟩], [15], 0, false, []⟩
def l18_7 : SC := (.seq (.seq (.reg r18_2) (.seq (.cond (.t 7) .skip (.seq (.kill [0, 1, 2, 4, 5, 6, 7, 14]) (.exit 0))) (.seq (.block 1 (.seq (.reg r18_3) (.seq (.reg r18_4) (.cond (.t 14) (.seq (.reg r18_5) (.seq (.kill [0, 1, 4, 5, 6, 7, 14]) .ret)) .skip)))) (.reg r18_6)))) (.kill [0, 1, 2, 4, 7, 14]))
def r18_8 : Reg := ⟨[⟨(some 2), (.mv (.c (.bool true))), none, 0⟩], [], 0, false, []⟩
def sf18 : SFn := { np := 1, vars := [0, 1, 2, 4, 5, 6, 7, 14], body := (.seq (.reg r18_0) (.seq (.seq (.reg r18_1) (.block 0 (.seq (.kill [0, 1, 2, 4, 7, 14]) (.loop l18_7)))) (.seq (.reg r18_8) (.seq (.kill [0, 1, 4, 5, 6, 7, 14]) .ret)))), res := [(.tmp 2)] }
/-! calliope/frame.rightTones -/
def r19_0 : Reg := ⟨[⟨(some 2), (.mv (.c (.bool false))), none, 0⟩], [], 0, false, []⟩
def r19_1 : Reg := ⟨[⟨(some 5), (.mv (.t 0)), none, 0⟩, ⟨(some 6), (.len .slice (.t 5)), none, 0⟩, ⟨(some 7), (.mv (.c (.int .i64 0))), none, 0⟩], [], 0, false, []⟩
def r19_2 : Reg := ⟨[⟨(some 8), (.bin .lss (.int .i64) (.t 7) (.t 6)), none, 0⟩], [], 0, false, []⟩
def r19_3 : Reg := ⟨[⟨(some 9), (.mv (.t 7)), none, 0⟩, ⟨(some 10), (.idxS 2 (.t 5) (.t 7)), none, 0⟩, ⟨(some 11), (.load (some 2) (.t 10)), none, 0⟩, ⟨(some 4), (.alloc (.ints .i64 [0, 0])), none, 0⟩, ⟨(some 3), (.mv (.t 9)), none, 1⟩, ⟨none, (.store 2 (.t 4) (.t 11)), none, 1⟩], [9, 10, 11], 1, true, []⟩
def r19_4 : Reg := ⟨[⟨(some 12), (.fieldAddr 0 (.t 4)), none, 0⟩, ⟨(some 13), (.load none (.t 12)), none, 0⟩, ⟨(some 14), (.bin .lss (.int .i64) (.t 13) (.c (.int .i64 0))), none, 0⟩, ⟨(some 15), (.mv (.t 14)), none, 0⟩, ⟨(some 16), (.fieldAddr 0 (.t 4)), (some (15, false)), 0⟩, ⟨(some 17), (.load none (.t 16)), (some (15, false)), 0⟩, ⟨(some 18), (.bin .geq (.int .i64) (.t 17) (.c (.int .i64 16))), (some (15, false)), 0⟩, ⟨(some 19), (.pick (.t 15) (.c (.bool true)) (.t 18)), none, 0⟩, ⟨(some 20), (.mv (.t 19)), none, 0⟩, ⟨(some 21), (.mv (.t 3)), (some (20, false)), 0⟩, ⟨(some 22), (.bin .gtr (.int .i64) (.t 21) (.c (.int .i64 0))), (some (20, false)), 0⟩, ⟨(some 23), (.mv (.t 22)), (some (20, false)), 0⟩, ⟨(some 24), (.mv (.t 0)), (some (23, true)), 0⟩, ⟨(some 25), (.mv (.t 3)), (some (23, true)), 0⟩, ⟨(some 26), (.bin .sub (.int .i64) (.t 25) (.c (.int .i64 1))), (some (23, true)), 0⟩, ⟨(some 27), (.idxS 2 (.t 24) (.t 26)), (some (23, true)), 0⟩, ⟨(some 28), (.fieldAddr 0 (.t 27)), (some (23, true)), 0⟩, ⟨(some 29), (.load none (.t 28)), (some (23, true)), 0⟩, ⟨(some 30), (.fieldAddr 0 (.t 4)), (some (23, true)), 0⟩, ⟨(some 31), (.load none (.t 30)), (some (23, true)), 0⟩, ⟨(some 32), (.bin .geq (.int .i64) (.t 29) (.t 31)), (some (23, true)), 0⟩, ⟨(some 33), (.pick (.t 23) (.t 32) (.c (.bool false))), (some (20, false)), 0⟩, ⟨(some 34), (.pick (.t 20) (.c (.bool true)) (.t 33)), none, 0⟩, ⟨(some 35), (.mv (.t 34)), none, 0⟩, ⟨(some 36), (.fieldAddr 1 (.t 4)), (some (35, false)), 0⟩, ⟨(some 37), (.load none (.t 36)), (some (35, false)), 0⟩, ⟨(some 38), (.callP 21 [(.t 37), (.c (.int .i64 24))]), (some (35, false)), 0⟩, ⟨(some 39), (.un .not (.t 38)), (some (35, false)), 0⟩, ⟨(some 40), (.pick (.t 35) (.c (.bool true)) (.t 39)), none, 0⟩], [12, 13, 14, 15, 16, 17, 18, 19, 20, 21, 22, 23, 24, 25, 26, 27, 28, 29, 30, 31, 32, 33, 34, 35, 36, 37, 38, 39], 0, false, []⟩
def r19_5 : Reg := ⟨[⟨(some 2), (.mv (.c (.bool false))), none, 0⟩], [], 0, false, []⟩
def r19_6 : Reg := ⟨[⟨(some 41), (.bin .add (.int .i64) (.t 7) (.c (.int .i64 1))), none, 0⟩, ⟨(some 7), (.mv (.t 41)), none, 0⟩], [41], 0, false, []⟩
def l19_7 : SC := (.seq (.seq (.reg r19_2) (.seq (.cond (.t 8) .skip (.seq (.kill [2, 3, 4, 5, 6, 7, 8, 40]) (.exit 0))) (.seq (.block 1 (.seq (.reg r19_3) (.seq (.reg r19_4) (.cond (.t 40) (.seq (.reg r19_5) (.seq (.kill [0, 3, 4, 5, 6, 7, 8, 40]) .ret)) .skip)))) (.reg r19_6)))) (.seq (.kill [2, 3, 4, 8, 40]) .tidy))
def r19_8 : Reg := ⟨[⟨(some 42), (.mv (.t 0)), none, 0⟩, ⟨(some 43), (.len .slice (.t 42)), none, 0⟩, ⟨(some 44), (.bin .leq (.int .i64) (.t 43) (.c (.int .i64 2))), none, 0⟩, ⟨(some 2), (.mv (.t 44)), none, 0⟩], [42, 43, 44], 0, false, []⟩
def sf19 : SFn := { np := 1, vars := [0, 2, 3, 4, 5, 6, 7, 8, 40], body := (.seq (.reg r19_0) (.seq (.seq (.reg r19_1) (.block 0 (.seq (.kill [2, 3, 4, 8, 40]) (.loop l19_7)))) (.seq (.reg r19_8) (.seq (.kill [0, 3, 4, 5, 6, 7, 8, 40]) .ret)))), res := [(.tmp 2)] }
/-! (calliope/quant.Scales).Right -/
def r20_0 : Reg := ⟨[⟨(some 1), (.box (.t 0)), none, 0⟩, ⟨(some 2), (.mv (.c (.bool false))), none, 1⟩], [], 1, true, []⟩
def r20_1 : Reg := ⟨[⟨(some 5), (.load (some 4) (.t 1)), none, 0⟩, ⟨(some 6), (.mv (.c (.int .i64 0))), none, 0⟩], [], 0, false, []⟩
def r20_2 : Reg := ⟨[⟨(some 7), (.bin .lss (.int .i64) (.t 6) (.c (.int .i64 4))), none, 0⟩], [], 0, false, []⟩
def r20_3 : Reg := ⟨[⟨(some 8), (.idxV 4 1 false (.t 5) (.t 6)), none, 0⟩, ⟨(some 4), (.mv (.t 8)), none, 0⟩], [8], 0, false, []⟩
def r20_4 : Reg := ⟨[⟨(some 9), (.mv (.t 4)), none, 0⟩, ⟨(some 10), (.bin .lss (.int .i64) (.t 9) (.c (.int .i64 0))), none, 0⟩, ⟨(some 11), (.mv (.t 10)), none, 0⟩, ⟨(some 12), (.mv (.t 4)), (some (11, false)), 0⟩, ⟨(some 13), (.bin .gtr (.int .i64) (.t 12) (.c (.int .i64 23))), (some (11, false)), 0⟩, ⟨(some 14), (.pick (.t 11) (.c (.bool true)) (.t 13)), none, 0⟩], [9, 10, 11, 12, 13], 0, false, []⟩
def r20_5 : Reg := ⟨[⟨(some 2), (.mv (.c (.bool false))), none, 0⟩], [], 0, false, []⟩
def r20_6 : Reg := ⟨[⟨(some 15), (.bin .add (.int .i64) (.t 6) (.c (.int .i64 1))), none, 0⟩, ⟨(some 6), (.mv (.t 15)), none, 0⟩], [15], 0, false, []⟩
def l20_7 : SC := (.seq (.seq (.reg r20_2) (.seq (.cond (.t 7) .skip (.seq (.kill [0, 1, 2, 4, 5, 6, 7, 14]) (.exit 0))) (.seq (.block 1 (.seq (.reg r20_3) (.seq (.reg r20_4) (.cond (.t 14) (.seq (.reg r20_5) (.seq (.kill [0, 1, 4, 5, 6, 7, 14]) .ret)) .skip)))) (.reg r20_6)))) (.kill [0, 1, 2, 4, 7, 14]))
def r20_8 : Reg := ⟨[⟨(some 2), (.mv (.c (.bool true))), none, 0⟩], [], 0, false, []⟩
def sf20 : SFn := { np := 1, vars := [0, 1, 2, 4, 5, 6, 7, 14], body := (.seq (.reg r20_0) (.seq (.seq (.reg r20_1) (.block 0 (.seq (.kill [0, 1, 2, 4, 7, 14]) (.loop l20_7)))) (.seq (.reg r20_8) (.seq (.kill [0, 1, 4, 5, 6, 7, 14]) .ret)))), res := [(.tmp 2)] }
/-! calliope/bits.Fits -/
def r21_0 : Reg := ⟨[⟨(some 4), (.mv (.c (.bool false))), none, 0⟩], [], 0, false, []⟩
def r21_1 : Reg := ⟨[⟨(some 5), (.mv (.t 1)), none, 0⟩, ⟨(some 6), (.bin .leq (.int .i64) (.t 5) (.c (.int .i64 0))), none, 0⟩], [5], 0, false, []⟩
def r21_2 : Reg := ⟨[⟨(some 7), (.mv (.t 0)), none, 0⟩, ⟨(some 8), (.bin .eql (.int .i64) (.t 7) (.c (.int .i64 0))), none, 0⟩, ⟨(some 4), (.mv (.t 8)), none, 0⟩], [7, 8], 0, false, []⟩
def r21_3 : Reg := ⟨[⟨(some 9), (.mv (.t 1)), none, 0⟩, ⟨(some 10), (.bin .gtr (.int .i64) (.t 9) (.c (.int .i64 63))), none, 0⟩, ⟨(some 11), (.mv (.t 10)), none, 0⟩, ⟨(some 12), (.mv (.t 0)), (some (11, false)), 0⟩, ⟨(some 13), (.mv (.t 1)), (some (11, false)), 0⟩, ⟨(some 14), (.bin .sub (.int .i64) (.t 13) (.c (.int .i64 1))), (some (11, false)), 0⟩, ⟨(some 15), (.bin .shl (.int .i64) (.c (.int .i64 (-1))) (.t 14)), (some (11, false)), 0⟩, ⟨(some 16), (.bin .geq (.int .i64) (.t 12) (.t 15)), (some (11, false)), 0⟩, ⟨(some 17), (.mv (.t 16)), (some (11, false)), 0⟩, ⟨(some 18), (.mv (.t 0)), (some (17, true)), 0⟩, ⟨(some 19), (.mv (.t 1)), (some (17, true)), 0⟩, ⟨(some 20), (.bin .sub (.int .i64) (.t 19) (.c (.int .i64 1))), (some (17, true)), 0⟩, ⟨(some 21), (.bin .shl (.int .i64) (.c (.int .i64 1)) (.t 20)), (some (17, true)), 0⟩, ⟨(some 22), (.bin .lss (.int .i64) (.t 18) (.t 21)), (some (17, true)), 0⟩, ⟨(some 23), (.pick (.t 17) (.t 22) (.c (.bool false))), (some (11, false)), 0⟩, ⟨(some 24), (.pick (.t 11) (.c (.bool true)) (.t 23)), none, 0⟩, ⟨(some 4), (.mv (.t 24)), none, 0⟩], [9, 10, 11, 12, 13, 14, 15, 16, 17, 18, 19, 20, 21, 22, 23, 24], 0, false, []⟩
def sf21 : SFn := { np := 2, vars := [0, 1, 4, 6], body := (.seq (.reg r21_0) (.seq (.seq (.reg r21_1) (.cond (.t 6) (.seq (.reg r21_2) (.seq (.kill [0, 1, 6]) .ret)) .skip)) (.seq (.reg r21_3) (.seq (.kill [0, 1, 6]) .ret)))), res := [(.tmp 4)] }
/-! calliope/quant.Values -/
def r22_0 : Reg := ⟨[⟨(some 2), (.box (.t 0)), none, 0⟩, ⟨(some 3), (.box (.t 1)), none, 1⟩, ⟨(some 4), (.alloc (.ints .i64 [0, 0, 0, 0, 0, 0, 0, 0, 0, 0, 0, 0, 0, 0, 0, 0])), none, 2⟩], [], 3, true, []⟩
def r22_1 : Reg := ⟨[⟨(some 6), (.load (some 4) (.t 3)), none, 0⟩, ⟨(some 7), (.callP 20 [(.t 6)]), none, 0⟩, ⟨(some 8), (.un .not (.t 7)), none, 0⟩], [6, 7], 0, false, []⟩
def r22_2 : Reg := ⟨[⟨(some 9), (.build (.ints .i64 [0, 0, 0, 0, 0, 0, 0, 0, 0, 0, 0, 0, 0, 0, 0, 0]) []), none, 0⟩, ⟨none, (.store 16 (.t 4) (.t 9)), none, 0⟩], [9], 0, false, []⟩
def r22_3 : Reg := ⟨[⟨(some 10), (.mv (.c (.int .i64 0))), none, 0⟩], [], 0, false, []⟩
def r22_4 : Reg := ⟨[⟨(some 11), (.bin .lss (.int .i64) (.t 10) (.c (.int .i64 16))), none, 0⟩], [], 0, false, []⟩
def r22_5 : Reg := ⟨[⟨(some 12), (.mv (.t 10)), none, 0⟩, ⟨(some 5), (.mv (.t 12)), none, 0⟩], [12], 0, false, []⟩
def r22_6 : Reg := ⟨[⟨(some 13), (.mv (.t 5)), none, 0⟩, ⟨(some 14), (.idxA 16 1 (.t 2) (.t 13)), none, 0⟩, ⟨(some 15), (.load none (.t 14)), none, 0⟩, ⟨(some 16), (.mv (.t 5)), none, 0⟩, ⟨(some 17), (.callP 25 [(.t 16)]), none, 0⟩, ⟨(some 18), (.idxA 4 1 (.t 3) (.t 17)), none, 0⟩, ⟨(some 19), (.load none (.t 18)), none, 0⟩, ⟨(some 20), (.callP 24 [(.t 19)]), none, 0⟩, ⟨(some 21), (.bin .mul (.int .i64) (.t 15) (.t 20)), none, 0⟩, ⟨(some 22), (.idxA 16 1 (.t 2) (.t 13)), none, 0⟩, ⟨none, (.store 1 (.t 22) (.t 21)), none, 0⟩], [13, 14, 15, 16, 17, 18, 19, 20, 21, 22], 0, false, []⟩
def r22_7 : Reg := ⟨[⟨(some 23), (.bin .add (.int .i64) (.t 10) (.c (.int .i64 1))), none, 0⟩, ⟨(some 10), (.mv (.t 23)), none, 0⟩], [23], 0, false, []⟩
def l22_8 : SC := (.seq (.seq (.reg r22_4) (.seq (.cond (.t 11) .skip (.seq (.kill [0, 1, 3, 5, 8, 10, 11]) (.exit 0))) (.seq (.block 1 (.seq (.reg r22_5) (.reg r22_6))) (.reg r22_7)))) (.kill [0, 1, 5, 8, 11]))
def r22_9 : Reg := ⟨[⟨(some 24), (.load (some 16) (.t 2)), none, 0⟩, ⟨none, (.store 16 (.t 4) (.t 24)), none, 0⟩], [24], 0, false, []⟩
def sf22 : SFn := { np := 2, vars := [0, 1, 2, 3, 4, 5, 8, 10, 11], body := (.seq (.reg r22_0) (.seq (.seq (.reg r22_1) (.cond (.t 8) (.seq (.reg r22_2) (.seq (.kill [0, 1, 2, 3, 5, 8, 10, 11]) .ret)) .skip)) (.seq (.seq (.reg r22_3) (.block 0 (.seq (.kill [0, 1, 5, 8, 11]) (.loop l22_8)))) (.seq (.reg r22_9) (.seq (.kill [0, 1, 2, 3, 5, 8, 10, 11]) .ret))))), res := [(.cell 4 (some 16))] }
/-! calliope/num.Clamp -/
def r23_0 : Reg := ⟨[⟨(some 6), (.mv (.c (.int .i64 0))), none, 0⟩], [], 0, false, []⟩
def r23_1 : Reg := ⟨[⟨(some 8), (.mv (.t 0)), none, 0⟩, ⟨(some 9), (.mv (.t 1)), none, 0⟩, ⟨(some 10), (.bin .lss (.int .i64) (.t 8) (.t 9)), none, 0⟩, ⟨(some 11), (.mv (.t 10)), none, 0⟩, ⟨(some 12), (.mv (.t 2)), (some (11, false)), 0⟩, ⟨(some 13), (.mv (.t 1)), (some (11, false)), 0⟩, ⟨(some 14), (.bin .lss (.int .i64) (.t 12) (.t 13)), (some (11, false)), 0⟩, ⟨(some 15), (.pick (.t 11) (.c (.bool true)) (.t 14)), none, 0⟩, ⟨(some 7), (.mv (.t 15)), none, 0⟩], [8, 9, 10, 11, 12, 13, 14, 15], 0, false, []⟩
def r23_2 : Reg := ⟨[⟨(some 16), (.mv (.t 1)), none, 0⟩, ⟨(some 6), (.mv (.t 16)), none, 0⟩], [16], 0, false, []⟩
def r23_3 : Reg := ⟨[⟨(some 18), (.mv (.t 0)), none, 0⟩, ⟨(some 19), (.mv (.t 2)), none, 0⟩, ⟨(some 20), (.bin .gtr (.int .i64) (.t 18) (.t 19)), none, 0⟩, ⟨(some 17), (.mv (.t 20)), none, 0⟩], [18, 19, 20], 0, false, []⟩
def r23_4 : Reg := ⟨[⟨(some 21), (.mv (.t 2)), none, 0⟩, ⟨(some 6), (.mv (.t 21)), none, 0⟩], [21], 0, false, []⟩
def r23_5 : Reg := ⟨[⟨(some 22), (.mv (.t 0)), none, 0⟩, ⟨(some 6), (.mv (.t 22)), none, 0⟩], [22], 0, false, []⟩
def sf23 : SFn := { np := 3, vars := [0, 1, 2, 6, 7, 17], body := (.seq (.reg r23_0) (.seq (.block 0 (.seq (.reg r23_1) (.cond (.t 7) (.seq (.reg r23_2) (.seq (.kill [0, 1, 2, 7, 17]) .ret)) (.seq (.reg r23_3) (.cond (.t 17) (.seq (.reg r23_4) (.seq (.kill [0, 1, 2, 7, 17]) .ret)) .skip))))) (.seq (.reg r23_5) (.seq (.kill [0, 1, 2, 7, 17]) .ret)))), res := [(.tmp 6)] }
/-! calliope/table.Step -/
def r24_0 : Reg := ⟨[⟨(some 2), (.mv (.c (.int .i64 0))), none, 0⟩], [], 0, false, []⟩
def r24_1 : Reg := ⟨[⟨(some 3), (.mv (.t 0)), none, 0⟩, ⟨(some 4), (.bin .lss (.int .i64) (.t 3) (.c (.int .i64 0))), none, 0⟩, ⟨(some 5), (.mv (.t 4)), none, 0⟩, ⟨(some 6), (.mv (.t 0)), (some (5, false)), 0⟩, ⟨(some 7), (.bin .gtr (.int .i64) (.t 6) (.c (.int .i64 23))), (some (5, false)), 0⟩, ⟨(some 8), (.pick (.t 5) (.c (.bool true)) (.t 7)), none, 0⟩], [3, 4, 5, 6, 7], 0, false, []⟩
def r24_2 : Reg := ⟨[⟨(some 2), (.mv (.c (.int .i64 0))), none, 0⟩], [], 0, false, []⟩
def r24_3 : Reg := ⟨[⟨(some 9), (.mv (.t 0)), none, 0⟩, ⟨(some 10), (.bin .shl (.int .i64) (.c (.int .i64 1)) (.t 9)), none, 0⟩, ⟨(some 2), (.mv (.t 10)), none, 0⟩], [9, 10], 0, false, []⟩
def sf24 : SFn := { np := 1, vars := [0, 2, 8], body := (.seq (.reg r24_0) (.seq (.seq (.reg r24_1) (.cond (.t 8) (.seq (.reg r24_2) (.seq (.kill [0, 8]) .ret)) .skip)) (.seq (.reg r24_3) (.seq (.kill [0, 8]) .ret)))), res := [(.tmp 2)] }
/-! calliope/quant.Band -/
def r25_0 : Reg := ⟨[⟨(some 2), (.mv (.c (.int .i64 0))), none, 0⟩], [], 0, false, []⟩
def r25_1 : Reg := ⟨[⟨(some 3), (.mv (.t 0)), none, 0⟩, ⟨(some 4), (.bin .lss (.int .i64) (.t 3) (.c (.int .i64 0))), none, 0⟩, ⟨(some 5), (.mv (.t 4)), none, 0⟩, ⟨(some 6), (.mv (.t 0)), (some (5, false)), 0⟩, ⟨(some 7), (.bin .geq (.int .i64) (.t 6) (.c (.int .i64 16))), (some (5, false)), 0⟩, ⟨(some 8), (.pick (.t 5) (.c (.bool true)) (.t 7)), none, 0⟩], [3, 4, 5, 6, 7], 0, false, []⟩
def r25_2 : Reg := ⟨[⟨(some 2), (.mv (.c (.int .i64 0))), none, 0⟩], [], 0, false, []⟩
def r25_3 : Reg := ⟨[⟨(some 9), (.mv (.t 0)), none, 0⟩, ⟨(some 10), (.bin .quo (.int .i64) (.t 9) (.c (.int .i64 4))), none, 0⟩, ⟨(some 2), (.mv (.t 10)), none, 0⟩], [9, 10], 0, false, []⟩
def sf25 : SFn := { np := 1, vars := [0, 2, 8], body := (.seq (.reg r25_0) (.seq (.seq (.reg r25_1) (.cond (.t 8) (.seq (.reg r25_2) (.seq (.kill [0, 8]) .ret)) .skip)) (.seq (.reg r25_3) (.seq (.kill [0, 8]) .ret)))), res := [(.tmp 2)] }
theorem c3 : cFn Try.prog 3 = some sf3 := by kernel_rfl
theorem k3 : callable Try.prog 3 = true := by kernel_rfl
theorem p3 : ∀ F, Try.prog.funcs[3]? = some F → F.params.size ≤ F.ntmps := fun F h => by rw [Try.func3] at h; cases h; exact of_decide_eq_true (by kernel_rfl)
theorem c4 : cFn Try.prog 4 = some sf4 := by kernel_rfl
theorem k4 : callable Try.prog 4 = true := by kernel_rfl
theorem p4 : ∀ F, Try.prog.funcs[4]? = some F → F.params.size ≤ F.ntmps := fun F h => by rw [Try.func4] at h; cases h; exact of_decide_eq_true (by kernel_rfl)
theorem c5 : cFn Try.prog 5 = some sf5 := by kernel_rfl
theorem k5 : callable Try.prog 5 = true := by kernel_rfl
theorem p5 : ∀ F, Try.prog.funcs[5]? = some F → F.params.size ≤ F.ntmps := fun F h => by rw [Try.func5] at h; cases h; exact of_decide_eq_true (by kernel_rfl)
theorem c6 : cFn Try.prog 6 = some sf6 := by kernel_rfl
theorem k6 : callable Try.prog 6 = true := by kernel_rfl
theorem p6 : ∀ F, Try.prog.funcs[6]? = some F → F.params.size ≤ F.ntmps := fun F h => by rw [Try.func6] at h; cases h; exact of_decide_eq_true (by kernel_rfl)
theorem c7 : cFn Try.prog 7 = some sf7 := by kernel_rfl
theorem k7 : callable Try.prog 7 = true := by kernel_rfl
theorem p7 : ∀ F, Try.prog.funcs[7]? = some F → F.params.size ≤ F.ntmps := fun F h => by rw [Try.func7] at h; cases h; exact of_decide_eq_true (by kernel_rfl)
theorem c8 : cFn Try.prog 8 = some sf8 := by kernel_rfl
theorem k8 : callable Try.prog 8 = true := by kernel_rfl
theorem p8 : ∀ F, Try.prog.funcs[8]? = some F → F.params.size ≤ F.ntmps := fun F h => by rw [Try.func8] at h; cases h; exact of_decide_eq_true (by kernel_rfl)
theorem c9 : cFn Try.prog 9 = some sf9 := by kernel_rfl
theorem k9 : callable Try.prog 9 = true := by kernel_rfl
theorem p9 : ∀ F, Try.prog.funcs[9]? = some F → F.params.size ≤ F.ntmps := fun F h => by rw [Try.func9] at h; cases h; exact of_decide_eq_true (by kernel_rfl)
theorem c10 : cFn Try.prog 10 = some sf10 := by kernel_rfl
theorem k10 : callable Try.prog 10 = true := by kernel_rfl
theorem p10 : ∀ F, Try.prog.funcs[10]? = some F → F.params.size ≤ F.ntmps := fun F h => by rw [Try.func10] at h; cases h; exact of_decide_eq_true (by kernel_rfl)
theorem c11 : cFn Try.prog 11 = some sf11 := by kernel_rfl
theorem k11 : callable Try.prog 11 = true := by kernel_rfl
theorem p11 : ∀ F, Try.prog.funcs[11]? = some F → F.params.size ≤ F.ntmps := fun F h => by rw [Try.func11] at h; cases h; exact of_decide_eq_true (by kernel_rfl)
theorem c12 : cFn Try.prog 12 = some sf12 := by kernel_rfl
theorem k12 : callable Try.prog 12 = true := by kernel_rfl
theorem p12 : ∀ F, Try.prog.funcs[12]? = some F → F.params.size ≤ F.ntmps := fun F h => by rw [Try.func12] at h; cases h; exact of_decide_eq_true (by kernel_rfl)
theorem c13 : cFn Try.prog 13 = some sf13 := by kernel_rfl
theorem k13 : callable Try.prog 13 = true := by kernel_rfl
theorem p13 : ∀ F, Try.prog.funcs[13]? = some F → F.params.size ≤ F.ntmps := fun F h => by rw [Try.func13] at h; cases h; exact of_decide_eq_true (by kernel_rfl)
theorem c14 : cFn Try.prog 14 = some sf14 := by kernel_rfl
theorem k14 : callable Try.prog 14 = true := by kernel_rfl
theorem p14 : ∀ F, Try.prog.funcs[14]? = some F → F.params.size ≤ F.ntmps := fun F h => by rw [Try.func14] at h; cases h; exact of_decide_eq_true (by kernel_rfl)
theorem c15 : cFn Try.prog 15 = some sf15 := by kernel_rfl
theorem k15 : callable Try.prog 15 = true := by kernel_rfl
theorem p15 : ∀ F, Try.prog.funcs[15]? = some F → F.params.size ≤ F.ntmps := fun F h => by rw [Try.func15] at h; cases h; exact of_decide_eq_true (by kernel_rfl)
theorem c16 : cFn Try.prog 16 = some sf16 := by kernel_rfl
theorem k16 : callable Try.prog 16 = true := by kernel_rfl
theorem p16 : ∀ F, Try.prog.funcs[16]? = some F → F.params.size ≤ F.ntmps := fun F h => by rw [Try.func16] at h; cases h; exact of_decide_eq_true (by kernel_rfl)
theorem c17 : cFn Try.prog 17 = some sf17 := by kernel_rfl
theorem k17 : callable Try.prog 17 = true := by kernel_rfl
theorem p17 : ∀ F, Try.prog.funcs[17]? = some F → F.params.size ≤ F.ntmps := fun F h => by rw [Try.func17] at h; cases h; exact of_decide_eq_true (by kernel_rfl)
theorem c18 : cFn Try.prog 18 = some sf18 := by kernel_rfl
theorem k18 : callable Try.prog 18 = true := by kernel_rfl
theorem p18 : ∀ F, Try.prog.funcs[18]? = some F → F.params.size ≤ F.ntmps := fun F h => by rw [Try.func18] at h; cases h; exact of_decide_eq_true (by kernel_rfl)
theorem c19 : cFn Try.prog 19 = some sf19 := by kernel_rfl
theorem k19 : callable Try.prog 19 = true := by kernel_rfl
theorem p19 : ∀ F, Try.prog.funcs[19]? = some F → F.params.size ≤ F.ntmps := fun F h => by rw [Try.func19] at h; cases h; exact of_decide_eq_true (by kernel_rfl)
theorem c20 : cFn Try.prog 20 = some sf20 := by kernel_rfl
theorem k20 : callable Try.prog 20 = true := by kernel_rfl
theorem p20 : ∀ F, Try.prog.funcs[20]? = some F → F.params.size ≤ F.ntmps := fun F h => by rw [Try.func20] at h; cases h; exact of_decide_eq_true (by kernel_rfl)
theorem c21 : cFn Try.prog 21 = some sf21 := by kernel_rfl
theorem k21 : callable Try.prog 21 = true := by kernel_rfl
theorem p21 : ∀ F, Try.prog.funcs[21]? = some F → F.params.size ≤ F.ntmps := fun F h => by rw [Try.func21] at h; cases h; exact of_decide_eq_true (by kernel_rfl)
theorem c22 : cFn Try.prog 22 = some sf22 := by kernel_rfl
theorem k22 : callable Try.prog 22 = true := by kernel_rfl
theorem p22 : ∀ F, Try.prog.funcs[22]? = some F → F.params.size ≤ F.ntmps := fun F h => by rw [Try.func22] at h; cases h; exact of_decide_eq_true (by kernel_rfl)
theorem c23 : cFn Try.prog 23 = some sf23 := by kernel_rfl
theorem k23 : callable Try.prog 23 = true := by kernel_rfl
theorem p23 : ∀ F, Try.prog.funcs[23]? = some F → F.params.size ≤ F.ntmps := fun F h => by rw [Try.func23] at h; cases h; exact of_decide_eq_true (by kernel_rfl)
theorem c24 : cFn Try.prog 24 = some sf24 := by kernel_rfl
theorem k24 : callable Try.prog 24 = true := by kernel_rfl
theorem p24 : ∀ F, Try.prog.funcs[24]? = some F → F.params.size ≤ F.ntmps := fun F h => by rw [Try.func24] at h; cases h; exact of_decide_eq_true (by kernel_rfl)
theorem c25 : cFn Try.prog 25 = some sf25 := by kernel_rfl
theorem k25 : callable Try.prog 25 = true := by kernel_rfl
theorem p25 : ∀ F, Try.prog.funcs[25]? = some F → F.params.size ≤ F.ntmps := fun F h => by rw [Try.func25] at h; cases h; exact of_decide_eq_true (by kernel_rfl)
def tab : FuncId → Option SFn := tabL [(3, sf3), (4, sf4), (5, sf5), (6, sf6), (7, sf7), (8, sf8), (9, sf9), (10, sf10), (11, sf11), (12, sf12), (13, sf13), (14, sf14), (15, sf15), (16, sf16), (17, sf17), (18, sf18), (19, sf19), (20, sf20), (21, sf21), (22, sf22), (23, sf23), (24, sf24), (25, sf25)]
theorem tabOk : TabOk Try.prog tab :=
  tabOk_cons c3 k3 p3 (tabOk_cons c4 k4 p4 (tabOk_cons c5 k5 p5 (tabOk_cons c6 k6 p6 (tabOk_cons c7 k7 p7 (tabOk_cons c8 k8 p8 (tabOk_cons c9 k9 p9 (tabOk_cons c10 k10 p10 (tabOk_cons c11 k11 p11 (tabOk_cons c12 k12 p12 (tabOk_cons c13 k13 p13 (tabOk_cons c14 k14 p14 (tabOk_cons c15 k15 p15 (tabOk_cons c16 k16 p16 (tabOk_cons c17 k17 p17 (tabOk_cons c18 k18 p18 (tabOk_cons c19 k19 p19 (tabOk_cons c20 k20 p20 (tabOk_cons c21 k21 p21 (tabOk_cons c22 k22 p22 (tabOk_cons c23 k23 p23 (tabOk_cons c24 k24 p24 (tabOk_cons c25 k25 p25 (tabOk_nil _)))))))))))))))))))))))
theorem t3 : tab 3 = some sf3 := rfl
theorem t4 : tab 4 = some sf4 := rfl
theorem t5 : tab 5 = some sf5 := rfl
theorem t6 : tab 6 = some sf6 := rfl
theorem t7 : tab 7 = some sf7 := rfl
theorem t8 : tab 8 = some sf8 := rfl
theorem t9 : tab 9 = some sf9 := rfl
theorem t10 : tab 10 = some sf10 := rfl
theorem t11 : tab 11 = some sf11 := rfl
theorem t12 : tab 12 = some sf12 := rfl
theorem t13 : tab 13 = some sf13 := rfl
theorem t14 : tab 14 = some sf14 := rfl
theorem t15 : tab 15 = some sf15 := rfl
theorem t16 : tab 16 = some sf16 := rfl
theorem t17 : tab 17 = some sf17 := rfl
theorem t18 : tab 18 = some sf18 := rfl
theorem t19 : tab 19 = some sf19 := rfl
theorem t20 : tab 20 = some sf20 := rfl
theorem t21 : tab 21 = some sf21 := rfl
theorem t22 : tab 22 = some sf22 := rfl
theorem t23 : tab 23 = some sf23 := rfl
theorem t24 : tab 24 = some sf24 := rfl
theorem t25 : tab 25 = some sf25 := rfl
end Go.Proofs.Ythofmhnbncopjaa
