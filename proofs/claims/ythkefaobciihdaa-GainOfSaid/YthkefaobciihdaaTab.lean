/-
  The abstract forms of this seat's functions, by program, and that they are the ones that the model's code has. Conditions: none.
-/
import Derived.Test.YthkefaobciihdaaRows
import Derived.Test.YthkefaobciihdaaSxP
namespace Go.Proofs.Ythkefaobciihdaa
open Go Go.Sx
set_option maxRecDepth 100000
/-! calliope/calliopelaw07.GainOf -/
def r3_0 : Reg := ⟨[⟨(some 1), (.box (.t 0)), none, 0⟩, ⟨(some 2), (.mv (.c (.bool false))), none, 1⟩], [], 1, true, []⟩
def r3_1 : Reg := ⟨[⟨(some 9), (.load (some 16) (.t 1)), none, 0⟩, ⟨(some 10), (.callP 5 [(.t 9)]), none, 0⟩, ⟨(some 11), (.un .not (.t 10)), none, 0⟩], [9, 10], 0, false, []⟩
def r3_2 : Reg := ⟨[⟨(some 12), (.callP 6 []), none, 0⟩, ⟨(some 2), (.mv (.t 12)), none, 0⟩], [12], 0, false, []⟩
def r3_3 : Reg := ⟨[⟨(some 13), (.load (some 16) (.t 1)), none, 0⟩, ⟨(some 14), (.callP 7 [(.t 13)]), none, 0⟩, ⟨(some 3), (.alloc (.ints .i64 [0, 0, 0, 0])), none, 0⟩, ⟨none, (.store 4 (.t 3) (.t 14)), none, 1⟩], [13, 14], 1, true, []⟩
def r3_4 : Reg := ⟨[⟨(some 15), (.load (some 16) (.t 1)), none, 0⟩, ⟨(some 16), (.callP 8 [(.t 15), (.c (.int .i64 0)), (.c (.int .i64 16))]), none, 0⟩, ⟨(some 4), (.mv (.t 16)), none, 0⟩], [15, 16], 0, false, []⟩
def r3_5 : Reg := ⟨[⟨(some 5), (.mv (.c (.int .i64 0))), none, 0⟩], [], 0, false, []⟩
def r3_6 : Reg := ⟨[⟨(some 17), (.mv (.t 5)), none, 0⟩, ⟨(some 18), (.bin .lss (.int .i64) (.t 17) (.c (.int .i64 4))), none, 0⟩], [17], 0, false, []⟩
def r3_7 : Reg := ⟨[⟨(some 21), (.load (some 16) (.t 1)), none, 0⟩, ⟨(some 22), (.mv (.t 5)), none, 0⟩, ⟨(some 23), (.bin .mul (.int .i64) (.c (.int .i64 4)) (.t 22)), none, 0⟩, ⟨(some 24), (.mv (.t 5)), none, 0⟩, ⟨(some 25), (.bin .mul (.int .i64) (.c (.int .i64 4)) (.t 24)), none, 0⟩, ⟨(some 26), (.bin .add (.int .i64) (.t 25) (.c (.int .i64 4))), none, 0⟩, ⟨(some 27), (.callP 8 [(.t 21), (.t 23), (.t 26)]), none, 0⟩, ⟨(some 6), (.mv (.t 27)), none, 0⟩], [21, 22, 23, 24, 25, 26, 27], 0, false, []⟩
def r3_8 : Reg := ⟨[⟨(some 7), (.mv (.c (.int .i64 0))), none, 0⟩], [], 0, false, []⟩
def r3_9 : Reg := ⟨[⟨(some 8), (.mv (.c (.int .i64 1))), none, 0⟩], [], 0, false, []⟩
def r3_10 : Reg := ⟨[⟨(some 28), (.mv (.t 8)), none, 0⟩, ⟨(some 29), (.bin .lss (.int .i64) (.t 28) (.c (.int .i64 4))), none, 0⟩], [28], 0, false, []⟩
def r3_11 : Reg := ⟨[⟨(some 32), (.mv (.t 6)), none, 0⟩, ⟨(some 33), (.bin .gtr (.int .i64) (.t 32) (.c (.int .i64 0))), none, 0⟩, ⟨(some 34), (.mv (.t 33)), none, 0⟩, ⟨(some 35), (.mv (.t 6)), (some (34, true)), 0⟩, ⟨(some 36), (.mv (.t 8)), (some (34, true)), 0⟩, ⟨(some 37), (.callP 9 [(.t 36)]), (some (34, true)), 0⟩, ⟨(some 38), (.bin .mul (.int .i64) (.t 35) (.t 37)), (some (34, true)), 0⟩, ⟨(some 39), (.mv (.t 4)), (some (34, true)), 0⟩, ⟨(some 40), (.bin .leq (.int .i64) (.t 38) (.t 39)), (some (34, true)), 0⟩, ⟨(some 41), (.pick (.t 34) (.t 40) (.c (.bool false))), none, 0⟩], [32, 33, 34, 35, 36, 37, 38, 39, 40], 0, false, []⟩
def r3_12 : Reg := ⟨[⟨(some 42), (.mv (.t 8)), none, 0⟩, ⟨(some 7), (.mv (.t 42)), none, 0⟩], [42], 0, false, []⟩
def r3_13 : Reg := ⟨[⟨(some 30), (.mv (.t 8)), none, 0⟩, ⟨(some 31), (.bin .add (.int .i64) (.t 30) (.c (.int .i64 1))), none, 0⟩, ⟨(some 8), (.mv (.t 31)), none, 0⟩], [30, 31], 0, false, []⟩
def l3_14 : SC := (.seq (.seq (.seq (.reg r3_10) (.cond (.t 29) .skip (.seq (.kill [0, 2, 8, 11, 18, 29, 41, 55]) (.exit 2)))) (.seq (.block 3 (.seq (.reg r3_11) (.cond (.t 41) (.reg r3_12) .skip))) (.reg r3_13))) (.kill [0, 2, 11, 18, 29, 41, 55]))
def r3_15 : Reg := ⟨[⟨(some 43), (.mv (.t 5)), none, 0⟩, ⟨(some 44), (.idxA 4 1 (.t 3) (.t 43)), none, 0⟩, ⟨(some 45), (.load none (.t 44)), none, 0⟩, ⟨(some 46), (.mv (.t 7)), none, 0⟩, ⟨(some 47), (.bin .neq (.int .i64) (.t 45) (.t 46)), none, 0⟩, ⟨(some 48), (.mv (.t 47)), none, 0⟩, ⟨(some 49), (.mv (.t 6)), (some (48, false)), 0⟩, ⟨(some 50), (.mv (.t 7)), (some (48, false)), 0⟩, ⟨(some 51), (.callP 9 [(.t 50)]), (some (48, false)), 0⟩, ⟨(some 52), (.bin .mul (.int .i64) (.t 49) (.t 51)), (some (48, false)), 0⟩, ⟨(some 53), (.mv (.t 4)), (some (48, false)), 0⟩, ⟨(some 54), (.bin .gtr (.int .i64) (.t 52) (.t 53)), (some (48, false)), 0⟩, ⟨(some 55), (.pick (.t 48) (.c (.bool true)) (.t 54)), none, 0⟩], [43, 44, 45, 46, 47, 48, 49, 50, 51, 52, 53, 54], 0, false, []⟩
def r3_16 : Reg := ⟨[⟨(some 2), (.mv (.c (.bool false))), none, 0⟩], [], 0, false, []⟩
def r3_17 : Reg := ⟨[⟨(some 19), (.mv (.t 5)), none, 0⟩, ⟨(some 20), (.bin .add (.int .i64) (.t 19) (.c (.int .i64 1))), none, 0⟩, ⟨(some 5), (.mv (.t 20)), none, 0⟩], [19, 20], 0, false, []⟩
def l3_18 : SC := (.seq (.seq (.seq (.reg r3_6) (.cond (.t 18) .skip (.seq (.kill [0, 1, 2, 4, 5, 6, 7, 8, 11, 18, 29, 41, 55]) (.exit 0)))) (.seq (.block 1 (.seq (.reg r3_7) (.seq (.reg r3_8) (.seq (.seq (.reg r3_9) (.block 2 (.seq (.kill [0, 2, 11, 18, 29, 41, 55]) (.loop l3_14)))) (.seq (.reg r3_15) (.cond (.t 55) (.seq (.reg r3_16) (.seq (.kill [0, 1, 3, 4, 5, 6, 7, 8, 11, 18, 29, 41, 55]) .ret)) .skip)))))) (.reg r3_17))) (.kill [0, 2, 6, 7, 8, 11, 18, 29, 41, 55]))
def r3_19 : Reg := ⟨[⟨(some 56), (.load (some 4) (.t 3)), none, 0⟩, ⟨(some 57), (.callP 10 [(.t 56)]), none, 0⟩, ⟨(some 58), (.mv (.t 57)), none, 0⟩, ⟨(some 59), (.callP 6 []), (some (58, true)), 0⟩, ⟨(some 60), (.pick (.t 58) (.t 59) (.c (.bool false))), none, 0⟩, ⟨(some 2), (.mv (.t 60)), none, 0⟩], [56, 57, 58, 59, 60], 0, false, []⟩
def sf3 : SFn := { np := 1, vars := [0, 1, 2, 3, 4, 5, 6, 7, 8, 11, 18, 29, 41, 55], body := (.seq (.reg r3_0) (.seq (.seq (.reg r3_1) (.cond (.t 11) (.seq (.reg r3_2) (.seq (.kill [0, 1, 3, 4, 5, 6, 7, 8, 11, 18, 29, 41, 55]) .ret)) .skip)) (.seq (.reg r3_3) (.seq (.reg r3_4) (.seq (.seq (.reg r3_5) (.block 0 (.seq (.kill [0, 2, 6, 7, 8, 11, 18, 29, 41, 55]) (.loop l3_18)))) (.seq (.reg r3_19) (.seq (.kill [0, 1, 3, 4, 5, 6, 7, 8, 11, 18, 29, 41, 55]) .ret))))))), res := [(.tmp 2)] }
/-! calliope/calliopelaw07.GainRights -/
def r4_0 : Reg := ⟨[⟨(some 2), (.box (.t 0)), none, 0⟩, ⟨(some 4), (.mv (.c (.bool false))), none, 1⟩], [], 1, true, []⟩
def r4_1 : Reg := ⟨[⟨(some 5), (.mv (.c (.int .i64 0))), none, 0⟩], [], 0, false, []⟩
def r4_2 : Reg := ⟨[⟨(some 6), (.mv (.t 1)), none, 0⟩, ⟨(some 7), (.bin .geq (.int .i64) (.t 6) (.c (.int .i64 0))), none, 0⟩, ⟨(some 8), (.mv (.t 7)), none, 0⟩, ⟨(some 9), (.mv (.t 1)), (some (8, true)), 0⟩, ⟨(some 10), (.bin .lss (.int .i64) (.t 9) (.c (.int .i64 16))), (some (8, true)), 0⟩, ⟨(some 11), (.pick (.t 8) (.t 10) (.c (.bool false))), none, 0⟩, ⟨(some 12), (.mv (.t 11)), none, 0⟩, ⟨(some 13), (.load (some 4) (.t 2)), (some (12, true)), 0⟩, ⟨(some 14), (.callP 11 [(.t 13)]), (some (12, true)), 0⟩, ⟨(some 15), (.pick (.t 12) (.t 14) (.c (.bool false))), none, 0⟩], [6, 7, 8, 9, 10, 11, 12, 13, 14], 0, false, []⟩
def r4_3 : Reg := ⟨[⟨(some 16), (.mv (.t 1)), none, 0⟩, ⟨(some 17), (.bin .quo (.int .i64) (.t 16) (.c (.int .i64 4))), none, 0⟩, ⟨(some 18), (.idxA 4 1 (.t 2) (.t 17)), none, 0⟩, ⟨(some 19), (.load none (.t 18)), none, 0⟩, ⟨(some 5), (.mv (.t 19)), none, 0⟩], [16, 17, 18, 19], 0, false, []⟩
def r4_4 : Reg := ⟨[⟨(some 20), (.load (some 4) (.t 2)), none, 0⟩, ⟨(some 21), (.callP 10 [(.t 20)]), none, 0⟩, ⟨(some 22), (.load (some 4) (.t 2)), none, 0⟩, ⟨(some 23), (.callP 11 [(.t 22)]), none, 0⟩, ⟨(some 24), (.bin .eql .bool (.t 21) (.t 23)), none, 0⟩, ⟨(some 25), (.mv (.t 24)), none, 0⟩, ⟨(some 26), (.load (some 4) (.t 2)), (some (25, true)), 0⟩, ⟨(some 27), (.mv (.t 1)), (some (25, true)), 0⟩, ⟨(some 28), (.callP 12 [(.t 26), (.t 27)]), (some (25, true)), 0⟩, ⟨(some 29), (.mv (.t 5)), (some (25, true)), 0⟩, ⟨(some 30), (.bin .eql (.int .i64) (.t 28) (.t 29)), (some (25, true)), 0⟩, ⟨(some 31), (.pick (.t 25) (.t 30) (.c (.bool false))), none, 0⟩, ⟨(some 32), (.mv (.t 31)), none, 0⟩, ⟨(some 33), (.load (some 4) (.t 2)), (some (32, true)), 0⟩, ⟨(some 34), (.callP 13 [(.t 33)]), (some (32, true)), 0⟩, ⟨(some 35), (.load (some 4) (.t 2)), (some (32, true)), 0⟩, ⟨(some 36), (.build (.ints .i64 [0, 0, 0, 0]) []), (some (32, true)), 0⟩, ⟨(some 37), (.bin .eql (.cells [(.int .i64), (.int .i64), (.int .i64), (.int .i64)]) (.t 35) (.t 36)), (some (32, true)), 0⟩, ⟨(some 38), (.bin .eql .bool (.t 34) (.t 37)), (some (32, true)), 0⟩, ⟨(some 39), (.pick (.t 32) (.t 38) (.c (.bool false))), none, 0⟩, ⟨(some 40), (.mv (.t 39)), none, 0⟩, ⟨(some 41), (.callP 6 []), (some (40, true)), 0⟩, ⟨(some 42), (.pick (.t 40) (.t 41) (.c (.bool false))), none, 0⟩, ⟨(some 4), (.mv (.t 42)), none, 0⟩], [20, 21, 22, 23, 24, 25, 26, 27, 28, 29, 30, 31, 32, 33, 34, 35, 36, 37, 38, 39, 40, 41, 42], 0, false, []⟩
def sf4 : SFn := { np := 2, vars := [0, 1, 2, 4, 5, 15], body := (.seq (.reg r4_0) (.seq (.reg r4_1) (.seq (.seq (.reg r4_2) (.cond (.t 15) (.reg r4_3) .skip)) (.seq (.reg r4_4) (.seq (.kill [0, 1, 2, 5, 15]) .ret))))), res := [(.tmp 4)] }
/-! calliope/calliopelaw07.near -/
def r5_0 : Reg := ⟨[⟨(some 1), (.box (.t 0)), none, 0⟩, ⟨(some 2), (.mv (.c (.bool false))), none, 1⟩], [], 1, true, []⟩
def r5_1 : Reg := ⟨[⟨(some 3), (.mv (.c (.int .i64 0))), none, 0⟩], [], 0, false, []⟩
def r5_2 : Reg := ⟨[⟨(some 4), (.mv (.t 3)), none, 0⟩, ⟨(some 5), (.bin .lss (.int .i64) (.t 4) (.c (.int .i64 16))), none, 0⟩], [4], 0, false, []⟩
def r5_3 : Reg := ⟨[⟨(some 8), (.mv (.t 3)), none, 0⟩, ⟨(some 9), (.idxA 16 1 (.t 1) (.t 8)), none, 0⟩, ⟨(some 10), (.load none (.t 9)), none, 0⟩, ⟨(some 11), (.bin .lss (.int .i64) (.t 10) (.c (.int .i64 (-1099511627776)))), none, 0⟩, ⟨(some 12), (.mv (.t 11)), none, 0⟩, ⟨(some 13), (.mv (.t 3)), (some (12, false)), 0⟩, ⟨(some 14), (.idxA 16 1 (.t 1) (.t 13)), (some (12, false)), 0⟩, ⟨(some 15), (.load none (.t 14)), (some (12, false)), 0⟩, ⟨(some 16), (.bin .gtr (.int .i64) (.t 15) (.c (.int .i64 1099511627776))), (some (12, false)), 0⟩, ⟨(some 17), (.pick (.t 12) (.c (.bool true)) (.t 16)), none, 0⟩], [8, 9, 10, 11, 12, 13, 14, 15, 16], 0, false, []⟩
def r5_4 : Reg := ⟨[⟨(some 2), (.mv (.c (.bool false))), none, 0⟩], [], 0, false, []⟩
def r5_5 : Reg := ⟨[⟨(some 6), (.mv (.t 3)), none, 0⟩, ⟨(some 7), (.bin .add (.int .i64) (.t 6) (.c (.int .i64 1))), none, 0⟩, ⟨(some 3), (.mv (.t 7)), none, 0⟩], [6, 7], 0, false, []⟩
def l5_6 : SC := (.seq (.seq (.seq (.reg r5_2) (.cond (.t 5) .skip (.seq (.kill [0, 1, 2, 3, 5, 17]) (.exit 0)))) (.seq (.block 1 (.seq (.reg r5_3) (.cond (.t 17) (.seq (.reg r5_4) (.seq (.kill [0, 1, 3, 5, 17]) .ret)) .skip))) (.reg r5_5))) (.kill [0, 2, 5, 17]))
def r5_7 : Reg := ⟨[⟨(some 2), (.mv (.c (.bool true))), none, 0⟩], [], 0, false, []⟩
def sf5 : SFn := { np := 1, vars := [0, 1, 2, 3, 5, 17], body := (.seq (.reg r5_0) (.seq (.seq (.reg r5_1) (.block 0 (.seq (.kill [0, 2, 5, 17]) (.loop l5_6)))) (.seq (.reg r5_7) (.seq (.kill [0, 1, 3, 5, 17]) .ret)))), res := [(.tmp 2)] }
/-! calliope/calliopelaw07.awake -/
def r6_0 : Reg := ⟨[⟨(some 0), (.mv (.c (.bool false))), none, 0⟩], [], 0, false, []⟩
def r6_1 : Reg := ⟨[⟨(some 1), (.alloc (.ints .i64 [0, 0, 0, 0, 0, 0, 0, 0, 0, 0, 0, 0, 0, 0, 0, 0])), none, 0⟩], [], 1, true, []⟩
def r6_2 : Reg := ⟨[⟨(some 2), (.mv (.c (.int .i64 0))), none, 0⟩], [], 0, false, []⟩
def r6_3 : Reg := ⟨[⟨(some 3), (.mv (.t 2)), none, 0⟩, ⟨(some 4), (.bin .lss (.int .i64) (.t 3) (.c (.int .i64 16))), none, 0⟩], [3], 0, false, []⟩
def r6_4 : Reg := ⟨[⟨(some 7), (.mv (.t 2)), none, 0⟩, ⟨(some 8), (.idxA 16 1 (.t 1) (.t 7)), none, 0⟩, ⟨none, (.store 1 (.t 8) (.c (.int .i64 80))), none, 0⟩], [7, 8], 0, false, []⟩
def r6_5 : Reg := ⟨[⟨(some 9), (.mv (.t 2)), none, 0⟩, ⟨(some 10), (.bin .lss (.int .i64) (.t 9) (.c (.int .i64 4))), none, 0⟩], [9], 0, false, []⟩
def r6_6 : Reg := ⟨[⟨(some 11), (.mv (.t 2)), none, 0⟩, ⟨(some 12), (.idxA 16 1 (.t 1) (.t 11)), none, 0⟩, ⟨none, (.store 1 (.t 12) (.c (.int .i64 10))), none, 0⟩], [11, 12], 0, false, []⟩
def r6_7 : Reg := ⟨[⟨(some 5), (.mv (.t 2)), none, 0⟩, ⟨(some 6), (.bin .add (.int .i64) (.t 5) (.c (.int .i64 1))), none, 0⟩, ⟨(some 2), (.mv (.t 6)), none, 0⟩], [5, 6], 0, false, []⟩
def l6_8 : SC := (.seq (.seq (.seq (.reg r6_3) (.cond (.t 4) .skip (.seq (.kill [0, 2, 4, 10]) (.exit 0)))) (.seq (.block 1 (.seq (.reg r6_4) (.seq (.reg r6_5) (.cond (.t 10) (.reg r6_6) .skip)))) (.reg r6_7))) (.kill [0, 4, 10]))
def r6_9 : Reg := ⟨[⟨(some 13), (.load (some 16) (.t 1)), none, 0⟩, ⟨(some 14), (.callP 7 [(.t 13)]), none, 0⟩, ⟨(some 15), (.build (.ints .i64 [0, 0, 0, 0]) [(0, 1, (.c (.int .i64 3))), (1, 1, (.c (.int .i64 0))), (2, 1, (.c (.int .i64 0))), (3, 1, (.c (.int .i64 0)))]), none, 0⟩, ⟨(some 16), (.bin .eql (.cells [(.int .i64), (.int .i64), (.int .i64), (.int .i64)]) (.t 14) (.t 15)), none, 0⟩, ⟨(some 0), (.mv (.t 16)), none, 0⟩], [13, 14, 15, 16], 0, false, []⟩
def sf6 : SFn := { np := 0, vars := [0, 1, 2, 4, 10], body := (.seq (.reg r6_0) (.seq (.reg r6_1) (.seq (.seq (.reg r6_2) (.block 0 (.seq (.kill [0, 4, 10]) (.loop l6_8)))) (.seq (.reg r6_9) (.seq (.kill [1, 2, 4, 10]) .ret))))), res := [(.tmp 0)] }
/-! calliope/gain.Of -/
def r7_0 : Reg := ⟨[⟨(some 1), (.box (.t 0)), none, 0⟩, ⟨(some 2), (.alloc (.ints .i64 [0, 0, 0, 0])), none, 1⟩], [], 2, true, []⟩
def r7_1 : Reg := ⟨[⟨(some 7), (.slA 16 1 (.t 1) none none), none, 0⟩, ⟨(some 8), (.call 14 [(.t 7)]), none, 0⟩, ⟨(some 3), (.mv (.t 8)), none, 0⟩], [7, 8], 0, true, []⟩
def r7_2 : Reg := ⟨[⟨(some 4), (.alloc (.ints .i64 [0, 0, 0, 0])), none, 0⟩], [], 1, true, []⟩
def r7_3 : Reg := ⟨[⟨(some 9), (.mv (.c (.int .i64 0))), none, 0⟩], [], 0, false, []⟩
def r7_4 : Reg := ⟨[⟨(some 10), (.bin .lss (.int .i64) (.t 9) (.c (.int .i64 4))), none, 0⟩], [], 0, false, []⟩
def r7_5 : Reg := ⟨[⟨(some 11), (.mv (.t 9)), none, 0⟩, ⟨(some 5), (.mv (.t 11)), none, 0⟩], [11], 0, false, []⟩
def r7_6 : Reg := ⟨[⟨(some 12), (.mv (.t 5)), none, 0⟩, ⟨(some 13), (.bin .mul (.int .i64) (.t 12) (.c (.int .i64 4))), none, 0⟩, ⟨(some 14), (.mv (.t 5)), none, 0⟩, ⟨(some 15), (.bin .add (.int .i64) (.t 14) (.c (.int .i64 1))), none, 0⟩, ⟨(some 16), (.bin .mul (.int .i64) (.t 15) (.c (.int .i64 4))), none, 0⟩, ⟨(some 17), (.slA 16 1 (.t 1) (some (.t 13)) (some (.t 16))), none, 0⟩, ⟨(some 18), (.call 14 [(.t 17)]), none, 0⟩, ⟨(some 6), (.mv (.t 18)), none, 0⟩], [12, 13, 14, 15, 16, 17, 18], 0, true, []⟩
def r7_7 : Reg := ⟨[⟨(some 19), (.mv (.t 6)), none, 0⟩, ⟨(some 20), (.bin .gtr (.int .i64) (.t 19) (.c (.int .i64 0))), none, 0⟩, ⟨(some 21), (.mv (.t 20)), none, 0⟩, ⟨(some 22), (.mv (.t 5)), (some (21, true)), 0⟩, ⟨(some 23), (.idxA 4 1 (.t 4) (.t 22)), (some (21, true)), 0⟩, ⟨(some 24), (.load none (.t 23)), (some (21, true)), 0⟩, ⟨(some 25), (.bin .lss (.int .i64) (.t 24) (.c (.int .i64 3))), (some (21, true)), 0⟩, ⟨(some 26), (.pick (.t 21) (.t 25) (.c (.bool false))), none, 0⟩, ⟨(some 27), (.mv (.t 26)), none, 0⟩, ⟨(some 28), (.mv (.t 6)), (some (27, true)), 0⟩, ⟨(some 29), (.mv (.t 5)), (some (27, true)), 0⟩, ⟨(some 30), (.idxA 4 1 (.t 4) (.t 29)), (some (27, true)), 0⟩, ⟨(some 31), (.load none (.t 30)), (some (27, true)), 0⟩, ⟨(some 32), (.bin .add (.int .i64) (.t 31) (.c (.int .i64 1))), (some (27, true)), 0⟩, ⟨(some 33), (.bin .shl (.int .i64) (.t 28) (.t 32)), (some (27, true)), 0⟩, ⟨(some 34), (.mv (.t 3)), (some (27, true)), 0⟩, ⟨(some 35), (.bin .leq (.int .i64) (.t 33) (.t 34)), (some (27, true)), 0⟩, ⟨(some 36), (.pick (.t 27) (.t 35) (.c (.bool false))), none, 0⟩], [19, 20, 21, 22, 23, 24, 25, 26, 27, 28, 29, 30, 31, 32, 33, 34, 35], 0, false, []⟩
def r7_8 : Reg := ⟨[⟨(some 37), (.mv (.t 5)), none, 0⟩, ⟨(some 38), (.idxA 4 1 (.t 4) (.t 37)), none, 0⟩, ⟨(some 39), (.load none (.t 38)), none, 0⟩, ⟨(some 40), (.bin .add (.int .i64) (.t 39) (.c (.int .i64 1))), none, 0⟩, ⟨(some 41), (.idxA 4 1 (.t 4) (.t 37)), none, 0⟩, ⟨none, (.store 1 (.t 41) (.t 40)), none, 0⟩], [37, 38, 39, 40, 41], 0, false, []⟩
def l7_9 : SC := (.seq (.seq (.seq (.reg r7_7) (.cond (.t 36) .skip (.seq (.kill [0, 5, 6, 10, 36]) (.exit 2)))) (.block 3 (.reg r7_8))) (.kill [0, 10, 36]))
def r7_10 : Reg := ⟨[⟨(some 42), (.bin .add (.int .i64) (.t 9) (.c (.int .i64 1))), none, 0⟩, ⟨(some 9), (.mv (.t 42)), none, 0⟩], [42], 0, false, []⟩
def l7_11 : SC := (.seq (.seq (.reg r7_4) (.seq (.cond (.t 10) .skip (.seq (.kill [0, 1, 3, 5, 6, 9, 10, 36]) (.exit 0))) (.seq (.block 1 (.seq (.reg r7_5) (.seq (.reg r7_6) (.block 2 (.seq (.kill [0, 10, 36]) (.loop l7_9)))))) (.reg r7_10)))) (.kill [0, 5, 6, 10, 36]))
def r7_12 : Reg := ⟨[⟨(some 43), (.load (some 4) (.t 4)), none, 0⟩, ⟨none, (.store 4 (.t 2) (.t 43)), none, 0⟩], [43], 0, false, []⟩
def sf7 : SFn := { np := 1, vars := [0, 1, 2, 3, 4, 5, 6, 9, 10, 36], body := (.seq (.reg r7_0) (.seq (.reg r7_1) (.seq (.reg r7_2) (.seq (.seq (.reg r7_3) (.block 0 (.seq (.kill [0, 5, 6, 10, 36]) (.loop l7_11)))) (.seq (.reg r7_12) (.seq (.kill [0, 1, 3, 4, 5, 6, 9, 10, 36]) .ret)))))), res := [(.cell 2 (some 4))] }
/-! calliope/calliopelaw07.peak -/
def r8_0 : Reg := ⟨[⟨(some 3), (.box (.t 0)), none, 0⟩, ⟨(some 6), (.mv (.c (.int .i64 0))), none, 1⟩], [], 1, true, []⟩
def r8_1 : Reg := ⟨[⟨(some 7), (.mv (.c (.int .i64 0))), none, 0⟩], [], 0, false, []⟩
def r8_2 : Reg := ⟨[⟨(some 9), (.mv (.t 1)), none, 0⟩, ⟨(some 8), (.mv (.t 9)), none, 0⟩], [9], 0, false, []⟩
def r8_3 : Reg := ⟨[⟨(some 10), (.mv (.t 8)), none, 0⟩, ⟨(some 11), (.mv (.t 2)), none, 0⟩, ⟨(some 12), (.bin .lss (.int .i64) (.t 10) (.t 11)), none, 0⟩], [10, 11], 0, false, []⟩
def r8_4 : Reg := ⟨[⟨(some 15), (.mv (.t 8)), none, 0⟩, ⟨(some 16), (.idxA 16 1 (.t 3) (.t 15)), none, 0⟩, ⟨(some 17), (.load none (.t 16)), none, 0⟩, ⟨(some 18), (.mv (.t 7)), none, 0⟩, ⟨(some 19), (.bin .gtr (.int .i64) (.t 17) (.t 18)), none, 0⟩], [15, 16, 17, 18], 0, false, []⟩
def r8_5 : Reg := ⟨[⟨(some 20), (.mv (.t 8)), none, 0⟩, ⟨(some 21), (.idxA 16 1 (.t 3) (.t 20)), none, 0⟩, ⟨(some 22), (.load none (.t 21)), none, 0⟩, ⟨(some 7), (.mv (.t 22)), none, 0⟩], [20, 21, 22], 0, false, []⟩
def r8_6 : Reg := ⟨[⟨(some 23), (.mv (.t 8)), none, 0⟩, ⟨(some 24), (.idxA 16 1 (.t 3) (.t 23)), none, 0⟩, ⟨(some 25), (.load none (.t 24)), none, 0⟩, ⟨(some 26), (.un .neg (.t 25)), none, 0⟩, ⟨(some 27), (.mv (.t 7)), none, 0⟩, ⟨(some 28), (.bin .gtr (.int .i64) (.t 26) (.t 27)), none, 0⟩], [23, 24, 25, 26, 27], 0, false, []⟩
def r8_7 : Reg := ⟨[⟨(some 29), (.mv (.t 8)), none, 0⟩, ⟨(some 30), (.idxA 16 1 (.t 3) (.t 29)), none, 0⟩, ⟨(some 31), (.load none (.t 30)), none, 0⟩, ⟨(some 32), (.un .neg (.t 31)), none, 0⟩, ⟨(some 7), (.mv (.t 32)), none, 0⟩], [29, 30, 31, 32], 0, false, []⟩
def r8_8 : Reg := ⟨[⟨(some 13), (.mv (.t 8)), none, 0⟩, ⟨(some 14), (.bin .add (.int .i64) (.t 13) (.c (.int .i64 1))), none, 0⟩, ⟨(some 8), (.mv (.t 14)), none, 0⟩], [13, 14], 0, false, []⟩
def l8_9 : SC := (.seq (.seq (.seq (.reg r8_3) (.cond (.t 12) .skip (.seq (.kill [0, 1, 2, 3, 6, 8, 12, 19, 28]) (.exit 0)))) (.seq (.block 1 (.seq (.seq (.reg r8_4) (.cond (.t 19) (.reg r8_5) .skip)) (.seq (.reg r8_6) (.cond (.t 28) (.reg r8_7) .skip)))) (.reg r8_8))) (.kill [0, 1, 6, 12, 19, 28]))
def r8_10 : Reg := ⟨[⟨(some 33), (.mv (.t 7)), none, 0⟩, ⟨(some 6), (.mv (.t 33)), none, 0⟩], [33], 0, false, []⟩
def sf8 : SFn := { np := 3, vars := [0, 1, 2, 3, 6, 7, 8, 12, 19, 28], body := (.seq (.reg r8_0) (.seq (.reg r8_1) (.seq (.seq (.reg r8_2) (.block 0 (.seq (.kill [0, 1, 6, 12, 19, 28]) (.loop l8_9)))) (.seq (.reg r8_10) (.seq (.kill [0, 1, 2, 3, 7, 8, 12, 19, 28]) .ret))))), res := [(.tmp 6)] }
/-! calliope/calliopelaw07.power -/
def r9_0 : Reg := ⟨[⟨(some 2), (.mv (.c (.int .i64 0))), none, 0⟩], [], 0, false, []⟩
def r9_1 : Reg := ⟨[⟨(some 3), (.mv (.c (.int .i64 1))), none, 0⟩], [], 0, false, []⟩
def r9_2 : Reg := ⟨[⟨(some 4), (.mv (.c (.int .i64 0))), none, 0⟩], [], 0, false, []⟩
def r9_3 : Reg := ⟨[⟨(some 5), (.mv (.t 4)), none, 0⟩, ⟨(some 6), (.mv (.t 0)), none, 0⟩, ⟨(some 7), (.bin .lss (.int .i64) (.t 5) (.t 6)), none, 0⟩], [5, 6], 0, false, []⟩
def r9_4 : Reg := ⟨[⟨(some 10), (.mv (.t 3)), none, 0⟩, ⟨(some 11), (.bin .mul (.int .i64) (.c (.int .i64 2)) (.t 10)), none, 0⟩, ⟨(some 3), (.mv (.t 11)), none, 0⟩], [10, 11], 0, false, []⟩
def r9_5 : Reg := ⟨[⟨(some 8), (.mv (.t 4)), none, 0⟩, ⟨(some 9), (.bin .add (.int .i64) (.t 8) (.c (.int .i64 1))), none, 0⟩, ⟨(some 4), (.mv (.t 9)), none, 0⟩], [8, 9], 0, false, []⟩
def l9_6 : SC := (.seq (.seq (.seq (.reg r9_3) (.cond (.t 7) .skip (.seq (.kill [0, 2, 4, 7]) (.exit 0)))) (.seq (.block 1 (.reg r9_4)) (.reg r9_5))) (.kill [2, 7]))
def r9_7 : Reg := ⟨[⟨(some 12), (.mv (.t 3)), none, 0⟩, ⟨(some 2), (.mv (.t 12)), none, 0⟩], [12], 0, false, []⟩
def sf9 : SFn := { np := 1, vars := [0, 2, 3, 4, 7], body := (.seq (.reg r9_0) (.seq (.reg r9_1) (.seq (.seq (.reg r9_2) (.block 0 (.seq (.kill [2, 7]) (.loop l9_6)))) (.seq (.reg r9_7) (.seq (.kill [0, 3, 4, 7]) .ret))))), res := [(.tmp 2)] }
/-! calliope/gain.Right -/
def r10_0 : Reg := ⟨[⟨(some 1), (.box (.t 0)), none, 0⟩, ⟨(some 2), (.mv (.c (.bool false))), none, 1⟩], [], 1, true, []⟩
def r10_1 : Reg := ⟨[⟨(some 5), (.load (some 4) (.t 1)), none, 0⟩, ⟨(some 6), (.mv (.c (.int .i64 0))), none, 0⟩], [], 0, false, []⟩
def r10_2 : Reg := ⟨[⟨(some 7), (.bin .lss (.int .i64) (.t 6) (.c (.int .i64 4))), none, 0⟩], [], 0, false, []⟩
def r10_3 : Reg := ⟨[⟨(some 8), (.idxV 4 1 false (.t 5) (.t 6)), none, 0⟩, ⟨(some 4), (.mv (.t 8)), none, 0⟩], [8], 0, false, []⟩
def r10_4 : Reg := ⟨[⟨(some 9), (.mv (.t 4)), none, 0⟩, ⟨(some 10), (.bin .lss (.int .i64) (.t 9) (.c (.int .i64 0))), none, 0⟩, ⟨(some 11), (.mv (.t 10)), none, 0⟩, ⟨(some 12), (.mv (.t 4)), (some (11, false)), 0⟩, ⟨(some 13), (.bin .gtr (.int .i64) (.t 12) (.c (.int .i64 3))), (some (11, false)), 0⟩, ⟨(some 14), (.pick (.t 11) (.c (.bool true)) (.t 13)), none, 0⟩], [9, 10, 11, 12, 13], 0, false, []⟩
def r10_5 : Reg := ⟨[⟨(some 2), (.mv (.c (.bool false))), none, 0⟩], [], 0, false, []⟩
def r10_6 : Reg := ⟨[⟨(some 15), (.bin .add (.int .i64) (.t 6) (.c (.int .i64 1))), none, 0⟩, ⟨(some 6), (.mv (.t 15)), none, 0⟩], [15], 0, false, []⟩
def l10_7 : SC := (.seq (.seq (.reg r10_2) (.seq (.cond (.t 7) .skip (.seq (.kill [0, 1, 2, 4, 5, 6, 7, 14]) (.exit 0))) (.seq (.block 1 (.seq (.reg r10_3) (.seq (.reg r10_4) (.cond (.t 14) (.seq (.reg r10_5) (.seq (.kill [0, 1, 4, 5, 6, 7, 14]) .ret)) .skip)))) (.reg r10_6)))) (.kill [0, 1, 2, 4, 7, 14]))
def r10_8 : Reg := ⟨[⟨(some 2), (.mv (.c (.bool true))), none, 0⟩], [], 0, false, []⟩
def sf10 : SFn := { np := 1, vars := [0, 1, 2, 4, 5, 6, 7, 14], body := (.seq (.reg r10_0) (.seq (.seq (.reg r10_1) (.block 0 (.seq (.kill [0, 1, 2, 4, 7, 14]) (.loop l10_7)))) (.seq (.reg r10_8) (.seq (.kill [0, 1, 4, 5, 6, 7, 14]) .ret)))), res := [(.tmp 2)] }
/-! calliope/calliopelaw07.right -/
def r11_0 : Reg := ⟨[⟨(some 1), (.box (.t 0)), none, 0⟩, ⟨(some 2), (.mv (.c (.bool false))), none, 1⟩], [], 1, true, []⟩
def r11_1 : Reg := ⟨[⟨(some 3), (.mv (.c (.int .i64 0))), none, 0⟩], [], 0, false, []⟩
def r11_2 : Reg := ⟨[⟨(some 4), (.mv (.t 3)), none, 0⟩, ⟨(some 5), (.bin .lss (.int .i64) (.t 4) (.c (.int .i64 4))), none, 0⟩], [4], 0, false, []⟩
def r11_3 : Reg := ⟨[⟨(some 8), (.mv (.t 3)), none, 0⟩, ⟨(some 9), (.idxA 4 1 (.t 1) (.t 8)), none, 0⟩, ⟨(some 10), (.load none (.t 9)), none, 0⟩, ⟨(some 11), (.bin .lss (.int .i64) (.t 10) (.c (.int .i64 0))), none, 0⟩, ⟨(some 12), (.mv (.t 11)), none, 0⟩, ⟨(some 13), (.mv (.t 3)), (some (12, false)), 0⟩, ⟨(some 14), (.idxA 4 1 (.t 1) (.t 13)), (some (12, false)), 0⟩, ⟨(some 15), (.load none (.t 14)), (some (12, false)), 0⟩, ⟨(some 16), (.bin .gtr (.int .i64) (.t 15) (.c (.int .i64 3))), (some (12, false)), 0⟩, ⟨(some 17), (.pick (.t 12) (.c (.bool true)) (.t 16)), none, 0⟩], [8, 9, 10, 11, 12, 13, 14, 15, 16], 0, false, []⟩
def r11_4 : Reg := ⟨[⟨(some 2), (.mv (.c (.bool false))), none, 0⟩], [], 0, false, []⟩
def r11_5 : Reg := ⟨[⟨(some 6), (.mv (.t 3)), none, 0⟩, ⟨(some 7), (.bin .add (.int .i64) (.t 6) (.c (.int .i64 1))), none, 0⟩, ⟨(some 3), (.mv (.t 7)), none, 0⟩], [6, 7], 0, false, []⟩
def l11_6 : SC := (.seq (.seq (.seq (.reg r11_2) (.cond (.t 5) .skip (.seq (.kill [0, 1, 2, 3, 5, 17]) (.exit 0)))) (.seq (.block 1 (.seq (.reg r11_3) (.cond (.t 17) (.seq (.reg r11_4) (.seq (.kill [0, 1, 3, 5, 17]) .ret)) .skip))) (.reg r11_5))) (.kill [0, 2, 5, 17]))
def r11_7 : Reg := ⟨[⟨(some 2), (.mv (.c (.bool true))), none, 0⟩], [], 0, false, []⟩
def sf11 : SFn := { np := 1, vars := [0, 1, 2, 3, 5, 17], body := (.seq (.reg r11_0) (.seq (.seq (.reg r11_1) (.block 0 (.seq (.kill [0, 2, 5, 17]) (.loop l11_6)))) (.seq (.reg r11_7) (.seq (.kill [0, 1, 3, 5, 17]) .ret)))), res := [(.tmp 2)] }
/-! calliope/gain.At -/
def r12_0 : Reg := ⟨[⟨(some 2), (.box (.t 0)), none, 0⟩, ⟨(some 4), (.mv (.c (.int .i64 0))), none, 1⟩], [], 1, true, []⟩
def r12_1 : Reg := ⟨[⟨(some 5), (.mv (.t 1)), none, 0⟩, ⟨(some 6), (.bin .lss (.int .i64) (.t 5) (.c (.int .i64 0))), none, 0⟩, ⟨(some 7), (.mv (.t 6)), none, 0⟩, ⟨(some 8), (.mv (.t 1)), (some (7, false)), 0⟩, ⟨(some 9), (.bin .geq (.int .i64) (.t 8) (.c (.int .i64 16))), (some (7, false)), 0⟩, ⟨(some 10), (.pick (.t 7) (.c (.bool true)) (.t 9)), none, 0⟩, ⟨(some 11), (.mv (.t 10)), none, 0⟩, ⟨(some 12), (.load (some 4) (.t 2)), (some (11, false)), 0⟩, ⟨(some 13), (.callP 10 [(.t 12)]), (some (11, false)), 0⟩, ⟨(some 14), (.un .not (.t 13)), (some (11, false)), 0⟩, ⟨(some 15), (.pick (.t 11) (.c (.bool true)) (.t 14)), none, 0⟩], [5, 6, 7, 8, 9, 10, 11, 12, 13, 14], 0, false, []⟩
def r12_2 : Reg := ⟨[⟨(some 4), (.mv (.c (.int .i64 0))), none, 0⟩], [], 0, false, []⟩
def r12_3 : Reg := ⟨[⟨(some 16), (.mv (.t 1)), none, 0⟩, ⟨(some 17), (.bin .quo (.int .i64) (.t 16) (.c (.int .i64 4))), none, 0⟩, ⟨(some 18), (.idxA 4 1 (.t 2) (.t 17)), none, 0⟩, ⟨(some 19), (.load none (.t 18)), none, 0⟩, ⟨(some 4), (.mv (.t 19)), none, 0⟩], [16, 17, 18, 19], 0, false, []⟩
def sf12 : SFn := { np := 2, vars := [0, 1, 2, 4, 15], body := (.seq (.reg r12_0) (.seq (.seq (.reg r12_1) (.cond (.t 15) (.seq (.reg r12_2) (.seq (.kill [0, 1, 2, 15]) .ret)) .skip)) (.seq (.reg r12_3) (.seq (.kill [0, 1, 2, 15]) .ret)))), res := [(.tmp 4)] }
/-! calliope/gain.Flat -/
def r13_0 : Reg := ⟨[⟨(some 1), (.box (.t 0)), none, 0⟩, ⟨(some 2), (.mv (.c (.bool false))), none, 1⟩], [], 1, true, []⟩
def r13_1 : Reg := ⟨[⟨(some 3), (.load (some 4) (.t 1)), none, 0⟩, ⟨(some 4), (.build (.ints .i64 [0, 0, 0, 0]) []), none, 0⟩, ⟨(some 5), (.bin .eql (.cells [(.int .i64), (.int .i64), (.int .i64), (.int .i64)]) (.t 3) (.t 4)), none, 0⟩, ⟨(some 2), (.mv (.t 5)), none, 0⟩], [3, 4, 5], 0, false, []⟩
def sf13 : SFn := { np := 1, vars := [0, 1, 2], body := (.seq (.reg r13_0) (.seq (.reg r13_1) (.seq (.kill [0, 1]) .ret))), res := [(.tmp 2)] }
/-! calliope/num.Peak -/
def r14_0 : Reg := ⟨[⟨(some 2), (.mv (.c (.int .i64 0))), none, 0⟩], [], 0, false, []⟩
def r14_1 : Reg := ⟨[⟨(some 3), (.mv (.c (.int .i64 0))), none, 0⟩], [], 0, false, []⟩
def r14_2 : Reg := ⟨[⟨(some 6), (.mv (.t 0)), none, 0⟩, ⟨(some 7), (.len .slice (.t 6)), none, 0⟩, ⟨(some 8), (.mv (.c (.int .i64 0))), none, 0⟩], [], 0, false, []⟩
def r14_3 : Reg := ⟨[⟨(some 9), (.bin .lss (.int .i64) (.t 8) (.t 7)), none, 0⟩], [], 0, false, []⟩
def r14_4 : Reg := ⟨[⟨(some 10), (.idxS 1 (.t 6) (.t 8)), none, 0⟩, ⟨(some 11), (.load none (.t 10)), none, 0⟩, ⟨(some 5), (.mv (.t 11)), none, 0⟩], [10, 11], 0, false, []⟩
def r14_5 : Reg := ⟨[⟨(some 12), (.mv (.t 3)), none, 0⟩, ⟨(some 13), (.mv (.t 5)), none, 0⟩, ⟨(some 14), (.callP 15 [(.t 13)]), none, 0⟩, ⟨(some 15), (.mx true [(.t 12), (.t 14)]), none, 0⟩, ⟨(some 3), (.mv (.t 15)), none, 0⟩], [12, 13, 14, 15], 0, false, []⟩
def r14_6 : Reg := ⟨[⟨(some 16), (.bin .add (.int .i64) (.t 8) (.c (.int .i64 1))), none, 0⟩, ⟨(some 8), (.mv (.t 16)), none, 0⟩], [16], 0, false, []⟩
def l14_7 : SC := (.seq (.seq (.reg r14_3) (.seq (.cond (.t 9) .skip (.seq (.kill [0, 2, 5, 6, 7, 8, 9]) (.exit 0))) (.seq (.block 1 (.seq (.reg r14_4) (.reg r14_5))) (.reg r14_6)))) (.kill [0, 2, 5, 9]))
def r14_8 : Reg := ⟨[⟨(some 17), (.mv (.t 3)), none, 0⟩, ⟨(some 2), (.mv (.t 17)), none, 0⟩], [17], 0, false, []⟩
def sf14 : SFn := { np := 1, vars := [0, 2, 3, 5, 6, 7, 8, 9], body := (.seq (.reg r14_0) (.seq (.reg r14_1) (.seq (.seq (.reg r14_2) (.block 0 (.seq (.kill [0, 2, 5, 9]) (.loop l14_7)))) (.seq (.reg r14_8) (.seq (.kill [0, 3, 5, 6, 7, 8, 9]) .ret))))), res := [(.tmp 2)] }
/-! calliope/num.Abs -/
def r15_0 : Reg := ⟨[⟨(some 2), (.mv (.c (.int .i64 0))), none, 0⟩], [], 0, false, []⟩
def r15_1 : Reg := ⟨[⟨(some 4), (.mv (.t 0)), none, 0⟩, ⟨(some 5), (.bin .eql (.int .i64) (.t 4) (.c (.int .i64 (-9223372036854775808)))), none, 0⟩, ⟨(some 3), (.mv (.t 5)), none, 0⟩], [4, 5], 0, false, []⟩
def r15_2 : Reg := ⟨[⟨(some 2), (.mv (.c (.int .i64 9223372036854775807))), none, 0⟩], [], 0, false, []⟩
def r15_3 : Reg := ⟨[⟨(some 7), (.mv (.t 0)), none, 0⟩, ⟨(some 8), (.bin .lss (.int .i64) (.t 7) (.c (.int .i64 0))), none, 0⟩, ⟨(some 6), (.mv (.t 8)), none, 0⟩], [7, 8], 0, false, []⟩
def r15_4 : Reg := ⟨[⟨(some 9), (.mv (.t 0)), none, 0⟩, ⟨(some 10), (.un .neg (.t 9)), none, 0⟩, ⟨(some 2), (.mv (.t 10)), none, 0⟩], [9, 10], 0, false, []⟩
def r15_5 : Reg := ⟨[⟨(some 11), (.mv (.t 0)), none, 0⟩, ⟨(some 2), (.mv (.t 11)), none, 0⟩], [11], 0, false, []⟩
def sf15 : SFn := { np := 1, vars := [0, 2, 3, 6], body := (.seq (.reg r15_0) (.seq (.block 0 (.seq (.reg r15_1) (.cond (.t 3) (.seq (.reg r15_2) (.seq (.kill [0, 3, 6]) .ret)) (.seq (.reg r15_3) (.cond (.t 6) (.seq (.reg r15_4) (.seq (.kill [0, 3, 6]) .ret)) .skip))))) (.seq (.reg r15_5) (.seq (.kill [0, 3, 6]) .ret)))), res := [(.tmp 2)] }
theorem c3 : cFn Try.prog 3 = some sf3 := by kernel_rfl
theorem k3 : callable Try.prog 3 = true := by kernel_rfl
theorem p3 : ∀ F, Try.prog.funcs[3]? = some F → F.params.size ≤ F.ntmps := fun F h => by rw [Try.func3] at h; cases h; exact of_decide_eq_true (by kernel_rfl)
theorem c4 : cFn Try.prog 4 = some sf4 := by kernel_rfl
theorem k4 : callable Try.prog 4 = true := by kernel_rfl
theorem p4 : ∀ F, Try.prog.funcs[4]? = some F → F.params.size ≤ F.ntmps := fun F h => by rw [Try.func4] at h; cases h; exact of_decide_eq_true (by kernel_rfl)
theorem c5 : cFn Try.prog 5 = some sf5 := by kernel_rfl
theorem k5 : callable Try.prog 5 = true := by kernel_rfl
theorem p5 : ∀ F, Try.prog.funcs[5]? = some F → F.params.size ≤ F.ntmps := fun F h => by rw [Try.func5] at h; cases h; exact of_decide_eq_true (by kernel_rfl)
theorem c6 : cFn Try.prog 6 = some sf6 := by kernel_rfl
theorem k6 : callable Try.prog 6 = true := by kernel_rfl
theorem p6 : ∀ F, Try.prog.funcs[6]? = some F → F.params.size ≤ F.ntmps := fun F h => by rw [Try.func6] at h; cases h; exact of_decide_eq_true (by kernel_rfl)
theorem c7 : cFn Try.prog 7 = some sf7 := by kernel_rfl
theorem k7 : callable Try.prog 7 = true := by kernel_rfl
theorem p7 : ∀ F, Try.prog.funcs[7]? = some F → F.params.size ≤ F.ntmps := fun F h => by rw [Try.func7] at h; cases h; exact of_decide_eq_true (by kernel_rfl)
theorem c8 : cFn Try.prog 8 = some sf8 := by kernel_rfl
theorem k8 : callable Try.prog 8 = true := by kernel_rfl
theorem p8 : ∀ F, Try.prog.funcs[8]? = some F → F.params.size ≤ F.ntmps := fun F h => by rw [Try.func8] at h; cases h; exact of_decide_eq_true (by kernel_rfl)
theorem c9 : cFn Try.prog 9 = some sf9 := by kernel_rfl
theorem k9 : callable Try.prog 9 = true := by kernel_rfl
theorem p9 : ∀ F, Try.prog.funcs[9]? = some F → F.params.size ≤ F.ntmps := fun F h => by rw [Try.func9] at h; cases h; exact of_decide_eq_true (by kernel_rfl)
theorem c10 : cFn Try.prog 10 = some sf10 := by kernel_rfl
theorem k10 : callable Try.prog 10 = true := by kernel_rfl
theorem p10 : ∀ F, Try.prog.funcs[10]? = some F → F.params.size ≤ F.ntmps := fun F h => by rw [Try.func10] at h; cases h; exact of_decide_eq_true (by kernel_rfl)
theorem c11 : cFn Try.prog 11 = some sf11 := by kernel_rfl
theorem k11 : callable Try.prog 11 = true := by kernel_rfl
theorem p11 : ∀ F, Try.prog.funcs[11]? = some F → F.params.size ≤ F.ntmps := fun F h => by rw [Try.func11] at h; cases h; exact of_decide_eq_true (by kernel_rfl)
theorem c12 : cFn Try.prog 12 = some sf12 := by kernel_rfl
theorem k12 : callable Try.prog 12 = true := by kernel_rfl
theorem p12 : ∀ F, Try.prog.funcs[12]? = some F → F.params.size ≤ F.ntmps := fun F h => by rw [Try.func12] at h; cases h; exact of_decide_eq_true (by kernel_rfl)
theorem c13 : cFn Try.prog 13 = some sf13 := by kernel_rfl
theorem k13 : callable Try.prog 13 = true := by kernel_rfl
theorem p13 : ∀ F, Try.prog.funcs[13]? = some F → F.params.size ≤ F.ntmps := fun F h => by rw [Try.func13] at h; cases h; exact of_decide_eq_true (by kernel_rfl)
theorem c14 : cFn Try.prog 14 = some sf14 := by kernel_rfl
theorem k14 : callable Try.prog 14 = true := by kernel_rfl
theorem p14 : ∀ F, Try.prog.funcs[14]? = some F → F.params.size ≤ F.ntmps := fun F h => by rw [Try.func14] at h; cases h; exact of_decide_eq_true (by kernel_rfl)
theorem c15 : cFn Try.prog 15 = some sf15 := by kernel_rfl
theorem k15 : callable Try.prog 15 = true := by kernel_rfl
theorem p15 : ∀ F, Try.prog.funcs[15]? = some F → F.params.size ≤ F.ntmps := fun F h => by rw [Try.func15] at h; cases h; exact of_decide_eq_true (by kernel_rfl)
def tab : FuncId → Option SFn := tabL [(3, sf3), (4, sf4), (5, sf5), (6, sf6), (7, sf7), (8, sf8), (9, sf9), (10, sf10), (11, sf11), (12, sf12), (13, sf13), (14, sf14), (15, sf15)]
theorem tabOk : TabOk Try.prog tab :=
  tabOk_cons c3 k3 p3 (tabOk_cons c4 k4 p4 (tabOk_cons c5 k5 p5 (tabOk_cons c6 k6 p6 (tabOk_cons c7 k7 p7 (tabOk_cons c8 k8 p8 (tabOk_cons c9 k9 p9 (tabOk_cons c10 k10 p10 (tabOk_cons c11 k11 p11 (tabOk_cons c12 k12 p12 (tabOk_cons c13 k13 p13 (tabOk_cons c14 k14 p14 (tabOk_cons c15 k15 p15 (tabOk_nil _)))))))))))))
theorem t3 : tab 3 = some sf3 := rfl
theorem t4 : tab 4 = some sf4 := rfl
theorem t5 : tab 5 = some sf5 := rfl
theorem t6 : tab 6 = some sf6 := rfl
theorem t7 : tab 7 = some sf7 := rfl
theorem t8 : tab 8 = some sf8 := rfl
theorem t9 : tab 9 = some sf9 := rfl
theorem t10 : tab 10 = some sf10 := rfl
theorem t11 : tab 11 = some sf11 := rfl
theorem t12 : tab 12 = some sf12 := rfl
theorem t13 : tab 13 = some sf13 := rfl
theorem t14 : tab 14 = some sf14 := rfl
theorem t15 : tab 15 = some sf15 := rfl
end Go.Proofs.Ythkefaobciihdaa
