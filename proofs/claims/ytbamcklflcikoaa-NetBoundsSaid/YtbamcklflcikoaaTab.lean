/-
  The abstract forms of this seat's functions, by program, and that they are the ones that the model's code has. Conditions: none.
-/
import Derived.Test.YtbamcklflcikoaaRows
import Derived.Test.YtbamcklflcikoaaSxP
import Derived.Test.YtbamcklflcikoaaNetF
namespace Go.Proofs.Ytbamcklflcikoaa
open Go Go.Sx
set_option maxRecDepth 100000
/-! calliope/calliopelaw06.NetForward -/
def r3_0 : Reg := ⟨[⟨(some 1), (.box (.t 0)), none, 0⟩, ⟨(some 2), (.mv (.c (.bool false))), none, 1⟩], [], 1, true, []⟩
def r3_1 : Reg := ⟨[⟨(some 3), (.load (some 16) (.t 1)), none, 0⟩, ⟨(some 4), (.callP 6 [(.t 3)]), none, 0⟩, ⟨(some 5), (.un .not (.t 4)), none, 0⟩], [3, 4], 0, false, []⟩
def r3_2 : Reg := ⟨[⟨(some 6), (.callP 7 []), none, 0⟩, ⟨(some 2), (.mv (.t 6)), none, 0⟩], [6], 0, false, []⟩
def r3_3 : Reg := ⟨[⟨(some 7), (.callP 8 []), none, 0⟩, ⟨(some 8), (.load (some 16) (.t 1)), none, 0⟩, ⟨(some 9), (.callP 9 [(.t 7), (.t 8)]), none, 0⟩, ⟨(some 10), (.load (some 16) (.t 1)), none, 0⟩, ⟨(some 11), (.callP 10 [(.t 10)]), none, 0⟩, ⟨(some 12), (.bin .eql (.cells [(.int .i64), (.int .i64), (.int .i64), (.int .i64), (.int .i64), (.int .i64), (.int .i64), (.int .i64), (.int .i64), (.int .i64), (.int .i64), (.int .i64), (.int .i64), (.int .i64), (.int .i64), (.int .i64)]) (.t 9) (.t 11)), none, 0⟩, ⟨(some 13), (.mv (.t 12)), none, 0⟩, ⟨(some 14), (.callP 7 []), (some (13, true)), 0⟩, ⟨(some 15), (.pick (.t 13) (.t 14) (.c (.bool false))), none, 0⟩, ⟨(some 2), (.mv (.t 15)), none, 0⟩], [7, 8, 9, 10, 11, 12, 13, 14, 15], 0, false, []⟩
def sf3 : SFn := { np := 1, vars := [0, 1, 2, 5], body := (.seq (.reg r3_0) (.seq (.seq (.reg r3_1) (.cond (.t 5) (.seq (.reg r3_2) (.seq (.kill [0, 1, 5]) .ret)) .skip)) (.seq (.reg r3_3) (.seq (.kill [0, 1, 5]) .ret)))), res := [(.tmp 2)] }
/-! calliope/calliopelaw06.NetApart -/
def r4_0 : Reg := ⟨[⟨(some 2), (.box (.t 0)), none, 0⟩, ⟨(some 3), (.box (.t 1)), none, 1⟩, ⟨(some 4), (.mv (.c (.bool false))), none, 2⟩], [], 2, true, []⟩
def r4_1 : Reg := ⟨[⟨(some 6), (.load (some 16) (.t 2)), none, 0⟩, ⟨(some 7), (.callP 6 [(.t 6)]), none, 0⟩, ⟨(some 8), (.un .not (.t 7)), none, 0⟩, ⟨(some 9), (.mv (.t 8)), none, 0⟩, ⟨(some 10), (.load (some 16) (.t 3)), (some (9, false)), 0⟩, ⟨(some 11), (.callP 6 [(.t 10)]), (some (9, false)), 0⟩, ⟨(some 12), (.un .not (.t 11)), (some (9, false)), 0⟩, ⟨(some 13), (.pick (.t 9) (.c (.bool true)) (.t 12)), none, 0⟩], [6, 7, 8, 9, 10, 11, 12], 0, false, []⟩
def r4_2 : Reg := ⟨[⟨(some 14), (.callP 7 []), none, 0⟩, ⟨(some 4), (.mv (.t 14)), none, 0⟩], [14], 0, false, []⟩
def r4_3 : Reg := ⟨[⟨(some 15), (.callP 8 []), none, 0⟩, ⟨(some 5), (.alloc (.ints .i64 [0, 0, 0, 0, 0, 0, 0, 0, 0, 0, 0, 0, 0, 0, 0, 0])), none, 0⟩, ⟨none, (.store 16 (.t 5) (.t 15)), none, 1⟩], [15], 1, true, []⟩
def r4_4 : Reg := ⟨[⟨(some 16), (.load (some 16) (.t 5)), none, 0⟩, ⟨(some 17), (.load (some 16) (.t 2)), none, 0⟩, ⟨(some 18), (.callP 9 [(.t 16), (.t 17)]), none, 0⟩, ⟨(some 19), (.load (some 16) (.t 5)), none, 0⟩, ⟨(some 20), (.load (some 16) (.t 3)), none, 0⟩, ⟨(some 21), (.callP 9 [(.t 19), (.t 20)]), none, 0⟩, ⟨(some 22), (.bin .eql (.cells [(.int .i64), (.int .i64), (.int .i64), (.int .i64), (.int .i64), (.int .i64), (.int .i64), (.int .i64), (.int .i64), (.int .i64), (.int .i64), (.int .i64), (.int .i64), (.int .i64), (.int .i64), (.int .i64)]) (.t 18) (.t 21)), none, 0⟩, ⟨(some 23), (.load (some 16) (.t 2)), none, 0⟩, ⟨(some 24), (.load (some 16) (.t 3)), none, 0⟩, ⟨(some 25), (.bin .eql (.cells [(.int .i64), (.int .i64), (.int .i64), (.int .i64), (.int .i64), (.int .i64), (.int .i64), (.int .i64), (.int .i64), (.int .i64), (.int .i64), (.int .i64), (.int .i64), (.int .i64), (.int .i64), (.int .i64)]) (.t 23) (.t 24)), none, 0⟩, ⟨(some 26), (.bin .eql .bool (.t 22) (.t 25)), none, 0⟩, ⟨(some 27), (.mv (.t 26)), none, 0⟩, ⟨(some 28), (.callP 7 []), (some (27, true)), 0⟩, ⟨(some 29), (.pick (.t 27) (.t 28) (.c (.bool false))), none, 0⟩, ⟨(some 4), (.mv (.t 29)), none, 0⟩], [16, 17, 18, 19, 20, 21, 22, 23, 24, 25, 26, 27, 28, 29], 0, false, []⟩
def sf4 : SFn := { np := 2, vars := [0, 1, 2, 3, 4, 5, 13], body := (.seq (.reg r4_0) (.seq (.seq (.reg r4_1) (.cond (.t 13) (.seq (.reg r4_2) (.seq (.kill [0, 1, 2, 3, 5, 13]) .ret)) .skip)) (.seq (.reg r4_3) (.seq (.reg r4_4) (.seq (.kill [0, 1, 2, 3, 5, 13]) .ret))))), res := [(.tmp 4)] }
/-! calliope/calliopelaw06.NetBounds -/
def r5_0 : Reg := ⟨[⟨(some 1), (.box (.t 0)), none, 0⟩, ⟨(some 2), (.mv (.c (.bool false))), none, 1⟩], [], 1, true, []⟩
def r5_1 : Reg := ⟨[⟨(some 8), (.load (some 16) (.t 1)), none, 0⟩, ⟨(some 9), (.callP 6 [(.t 8)]), none, 0⟩, ⟨(some 10), (.un .not (.t 9)), none, 0⟩], [8, 9], 0, false, []⟩
def r5_2 : Reg := ⟨[⟨(some 11), (.callP 7 []), none, 0⟩, ⟨(some 2), (.mv (.t 11)), none, 0⟩], [11], 0, false, []⟩
def r5_3 : Reg := ⟨[⟨(some 3), (.mv (.c (.int .i64 0))), none, 0⟩], [], 0, false, []⟩
def r5_4 : Reg := ⟨[⟨(some 4), (.mv (.c (.int .i64 0))), none, 0⟩], [], 0, false, []⟩
def r5_5 : Reg := ⟨[⟨(some 12), (.mv (.t 4)), none, 0⟩, ⟨(some 13), (.bin .lss (.int .i64) (.t 12) (.c (.int .i64 16))), none, 0⟩], [12], 0, false, []⟩
def r5_6 : Reg := ⟨[⟨(some 16), (.mv (.t 4)), none, 0⟩, ⟨(some 17), (.idxA 16 1 (.t 1) (.t 16)), none, 0⟩, ⟨(some 18), (.load none (.t 17)), none, 0⟩, ⟨(some 19), (.mv (.t 3)), none, 0⟩, ⟨(some 20), (.bin .gtr (.int .i64) (.t 18) (.t 19)), none, 0⟩], [16, 17, 18, 19], 0, false, []⟩
def r5_7 : Reg := ⟨[⟨(some 21), (.mv (.t 4)), none, 0⟩, ⟨(some 22), (.idxA 16 1 (.t 1) (.t 21)), none, 0⟩, ⟨(some 23), (.load none (.t 22)), none, 0⟩, ⟨(some 3), (.mv (.t 23)), none, 0⟩], [21, 22, 23], 0, false, []⟩
def r5_8 : Reg := ⟨[⟨(some 24), (.mv (.t 4)), none, 0⟩, ⟨(some 25), (.idxA 16 1 (.t 1) (.t 24)), none, 0⟩, ⟨(some 26), (.load none (.t 25)), none, 0⟩, ⟨(some 27), (.un .neg (.t 26)), none, 0⟩, ⟨(some 28), (.mv (.t 3)), none, 0⟩, ⟨(some 29), (.bin .gtr (.int .i64) (.t 27) (.t 28)), none, 0⟩], [24, 25, 26, 27, 28], 0, false, []⟩
def r5_9 : Reg := ⟨[⟨(some 30), (.mv (.t 4)), none, 0⟩, ⟨(some 31), (.idxA 16 1 (.t 1) (.t 30)), none, 0⟩, ⟨(some 32), (.load none (.t 31)), none, 0⟩, ⟨(some 33), (.un .neg (.t 32)), none, 0⟩, ⟨(some 3), (.mv (.t 33)), none, 0⟩], [30, 31, 32, 33], 0, false, []⟩
def r5_10 : Reg := ⟨[⟨(some 14), (.mv (.t 4)), none, 0⟩, ⟨(some 15), (.bin .add (.int .i64) (.t 14) (.c (.int .i64 1))), none, 0⟩, ⟨(some 4), (.mv (.t 15)), none, 0⟩], [14, 15], 0, false, []⟩
def l5_11 : SC := (.seq (.seq (.seq (.reg r5_5) (.cond (.t 13) .skip (.seq (.kill [0, 2, 4, 5, 6, 7, 10, 13, 20, 29, 40, 45, 60]) (.exit 0)))) (.seq (.block 1 (.seq (.seq (.reg r5_6) (.cond (.t 20) (.reg r5_7) .skip)) (.seq (.reg r5_8) (.cond (.t 29) (.reg r5_9) .skip)))) (.reg r5_10))) (.kill [0, 2, 5, 6, 7, 10, 13, 20, 29, 40, 45, 60]))
def r5_12 : Reg := ⟨[⟨(some 34), (.mv (.t 3)), none, 0⟩, ⟨(some 35), (.bin .mul (.int .i64) (.c (.int .i64 81)) (.t 34)), none, 0⟩, ⟨(some 36), (.bin .add (.int .i64) (.t 35) (.c (.int .i64 160))), none, 0⟩, ⟨(some 5), (.mv (.t 36)), none, 0⟩], [34, 35, 36], 0, false, []⟩
def r5_13 : Reg := ⟨[⟨(some 37), (.mv (.t 3)), none, 0⟩, ⟨(some 38), (.callP 11 [(.t 37)]), none, 0⟩, ⟨(some 39), (.mv (.t 5)), none, 0⟩, ⟨(some 40), (.bin .neq (.int .i64) (.t 38) (.t 39)), none, 0⟩], [37, 38, 39], 0, false, []⟩
def r5_14 : Reg := ⟨[⟨(some 2), (.mv (.c (.bool false))), none, 0⟩], [], 0, false, []⟩
def r5_15 : Reg := ⟨[⟨(some 41), (.callP 8 []), none, 0⟩, ⟨(some 42), (.load (some 16) (.t 1)), none, 0⟩, ⟨(some 43), (.callP 9 [(.t 41), (.t 42)]), none, 0⟩, ⟨(some 6), (.alloc (.ints .i64 [0, 0, 0, 0, 0, 0, 0, 0, 0, 0, 0, 0, 0, 0, 0, 0])), none, 0⟩, ⟨none, (.store 16 (.t 6) (.t 43)), none, 1⟩], [41, 42, 43], 1, true, [(1, 3)]⟩
def r5_16 : Reg := ⟨[⟨(some 7), (.mv (.c (.int .i64 0))), none, 0⟩], [], 0, false, []⟩
def r5_17 : Reg := ⟨[⟨(some 44), (.mv (.t 7)), none, 0⟩, ⟨(some 45), (.bin .lss (.int .i64) (.t 44) (.c (.int .i64 16))), none, 0⟩], [44], 0, false, []⟩
def r5_18 : Reg := ⟨[⟨(some 48), (.mv (.t 7)), none, 0⟩, ⟨(some 49), (.idxA 16 1 (.t 6) (.t 48)), none, 0⟩, ⟨(some 50), (.load none (.t 49)), none, 0⟩, ⟨(some 51), (.mv (.t 5)), none, 0⟩, ⟨(some 52), (.bin .gtr (.int .i64) (.t 50) (.t 51)), none, 0⟩, ⟨(some 53), (.mv (.t 52)), none, 0⟩, ⟨(some 54), (.mv (.t 7)), (some (53, false)), 0⟩, ⟨(some 55), (.idxA 16 1 (.t 6) (.t 54)), (some (53, false)), 0⟩, ⟨(some 56), (.load none (.t 55)), (some (53, false)), 0⟩, ⟨(some 57), (.mv (.t 5)), (some (53, false)), 0⟩, ⟨(some 58), (.un .neg (.t 57)), (some (53, false)), 0⟩, ⟨(some 59), (.bin .lss (.int .i64) (.t 56) (.t 58)), (some (53, false)), 0⟩, ⟨(some 60), (.pick (.t 53) (.c (.bool true)) (.t 59)), none, 0⟩], [48, 49, 50, 51, 52, 53, 54, 55, 56, 57, 58, 59], 0, false, []⟩
def r5_19 : Reg := ⟨[⟨(some 2), (.mv (.c (.bool false))), none, 0⟩], [], 0, false, []⟩
def r5_20 : Reg := ⟨[⟨(some 46), (.mv (.t 7)), none, 0⟩, ⟨(some 47), (.bin .add (.int .i64) (.t 46) (.c (.int .i64 1))), none, 0⟩, ⟨(some 7), (.mv (.t 47)), none, 0⟩], [46, 47], 0, false, []⟩
def l5_21 : SC := (.seq (.seq (.seq (.reg r5_17) (.cond (.t 45) .skip (.seq (.kill [0, 1, 2, 3, 4, 5, 6, 7, 10, 13, 20, 29, 40, 45, 60]) (.exit 2)))) (.seq (.block 3 (.seq (.reg r5_18) (.cond (.t 60) (.seq (.reg r5_19) (.seq (.kill [0, 1, 3, 4, 5, 6, 7, 10, 13, 20, 29, 40, 45, 60]) .ret)) .skip))) (.reg r5_20))) (.kill [0, 1, 2, 3, 4, 10, 13, 20, 29, 40, 45, 60]))
def r5_22 : Reg := ⟨[⟨(some 61), (.callP 7 []), none, 0⟩, ⟨(some 2), (.mv (.t 61)), none, 0⟩], [61], 0, false, []⟩
def sf5 : SFn := { np := 1, vars := [0, 1, 2, 3, 4, 5, 6, 7, 10, 13, 20, 29, 40, 45, 60], body := (.seq (.reg r5_0) (.seq (.seq (.reg r5_1) (.cond (.t 10) (.seq (.reg r5_2) (.seq (.kill [0, 1, 3, 4, 5, 6, 7, 10, 13, 20, 29, 40, 45, 60]) .ret)) .skip)) (.seq (.reg r5_3) (.seq (.seq (.reg r5_4) (.block 0 (.seq (.kill [0, 2, 5, 6, 7, 10, 13, 20, 29, 40, 45, 60]) (.loop l5_11)))) (.seq (.reg r5_12) (.seq (.seq (.reg r5_13) (.cond (.t 40) (.seq (.reg r5_14) (.seq (.kill [0, 1, 3, 4, 5, 6, 7, 10, 13, 20, 29, 40, 45, 60]) .ret)) .skip)) (.seq (.reg r5_15) (.seq (.seq (.reg r5_16) (.block 2 (.seq (.kill [0, 1, 2, 3, 4, 10, 13, 20, 29, 40, 45, 60]) (.loop l5_21)))) (.seq (.reg r5_22) (.seq (.kill [0, 1, 3, 4, 5, 6, 7, 10, 13, 20, 29, 40, 45, 60]) .ret)))))))))), res := [(.tmp 2)] }
/-! calliope/calliopelaw06.near -/
def r6_0 : Reg := ⟨[⟨(some 1), (.box (.t 0)), none, 0⟩, ⟨(some 2), (.mv (.c (.bool false))), none, 1⟩], [], 1, true, []⟩
def r6_1 : Reg := ⟨[⟨(some 3), (.mv (.c (.int .i64 0))), none, 0⟩], [], 0, false, []⟩
def r6_2 : Reg := ⟨[⟨(some 4), (.mv (.t 3)), none, 0⟩, ⟨(some 5), (.bin .lss (.int .i64) (.t 4) (.c (.int .i64 16))), none, 0⟩], [4], 0, false, []⟩
def r6_3 : Reg := ⟨[⟨(some 8), (.mv (.t 3)), none, 0⟩, ⟨(some 9), (.idxA 16 1 (.t 1) (.t 8)), none, 0⟩, ⟨(some 10), (.load none (.t 9)), none, 0⟩, ⟨(some 11), (.bin .lss (.int .i64) (.t 10) (.c (.int .i64 (-4294967296)))), none, 0⟩, ⟨(some 12), (.mv (.t 11)), none, 0⟩, ⟨(some 13), (.mv (.t 3)), (some (12, false)), 0⟩, ⟨(some 14), (.idxA 16 1 (.t 1) (.t 13)), (some (12, false)), 0⟩, ⟨(some 15), (.load none (.t 14)), (some (12, false)), 0⟩, ⟨(some 16), (.bin .gtr (.int .i64) (.t 15) (.c (.int .i64 4294967296))), (some (12, false)), 0⟩, ⟨(some 17), (.pick (.t 12) (.c (.bool true)) (.t 16)), none, 0⟩], [8, 9, 10, 11, 12, 13, 14, 15, 16], 0, false, []⟩
def r6_4 : Reg := ⟨[⟨(some 2), (.mv (.c (.bool false))), none, 0⟩], [], 0, false, []⟩
def r6_5 : Reg := ⟨[⟨(some 6), (.mv (.t 3)), none, 0⟩, ⟨(some 7), (.bin .add (.int .i64) (.t 6) (.c (.int .i64 1))), none, 0⟩, ⟨(some 3), (.mv (.t 7)), none, 0⟩], [6, 7], 0, false, []⟩
def l6_6 : SC := (.seq (.seq (.seq (.reg r6_2) (.cond (.t 5) .skip (.seq (.kill [0, 1, 2, 3, 5, 17]) (.exit 0)))) (.seq (.block 1 (.seq (.reg r6_3) (.cond (.t 17) (.seq (.reg r6_4) (.seq (.kill [0, 1, 3, 5, 17]) .ret)) .skip))) (.reg r6_5))) (.kill [0, 2, 5, 17]))
def r6_7 : Reg := ⟨[⟨(some 2), (.mv (.c (.bool true))), none, 0⟩], [], 0, false, []⟩
def sf6 : SFn := { np := 1, vars := [0, 1, 2, 3, 5, 17], body := (.seq (.reg r6_0) (.seq (.seq (.reg r6_1) (.block 0 (.seq (.kill [0, 2, 5, 17]) (.loop l6_6)))) (.seq (.reg r6_7) (.seq (.kill [0, 1, 3, 5, 17]) .ret)))), res := [(.tmp 2)] }
/-! calliope/calliopelaw06.awake -/
def r7_0 : Reg := ⟨[⟨(some 0), (.mv (.c (.bool false))), none, 0⟩], [], 0, false, []⟩
def r7_1 : Reg := ⟨[⟨(some 3), (.callP 8 []), none, 0⟩, ⟨(some 1), (.alloc (.ints .i64 [0, 0, 0, 0, 0, 0, 0, 0, 0, 0, 0, 0, 0, 0, 0, 0])), none, 0⟩, ⟨none, (.store 16 (.t 1) (.t 3)), none, 1⟩], [3], 1, true, []⟩
def r7_2 : Reg := ⟨[⟨(some 4), (.load (some 16) (.t 1)), none, 0⟩, ⟨(some 5), (.build (.ints .i64 [0, 0, 0, 0, 0, 0, 0, 0, 0, 0, 0, 0, 0, 0, 0, 0]) [(0, 1, (.c (.int .i64 1000)))]), none, 0⟩, ⟨(some 6), (.callP 9 [(.t 4), (.t 5)]), none, 0⟩, ⟨(some 2), (.alloc (.ints .i64 [0, 0, 0, 0, 0, 0, 0, 0, 0, 0, 0, 0, 0, 0, 0, 0])), none, 0⟩, ⟨none, (.store 16 (.t 2) (.t 6)), none, 1⟩], [4, 5, 6], 1, true, []⟩
def r7_3 : Reg := ⟨[⟨(some 7), (.load (some 16) (.t 1)), none, 0⟩, ⟨(some 8), (.build (.ints .i64 [0, 0, 0, 0, 0, 0, 0, 0, 0, 0, 0, 0, 0, 0, 0, 0]) []), none, 0⟩, ⟨(some 9), (.callP 9 [(.t 7), (.t 8)]), none, 0⟩, ⟨(some 10), (.build (.ints .i64 [0, 0, 0, 0, 0, 0, 0, 0, 0, 0, 0, 0, 0, 0, 0, 0]) []), none, 0⟩, ⟨(some 11), (.bin .eql (.cells [(.int .i64), (.int .i64), (.int .i64), (.int .i64), (.int .i64), (.int .i64), (.int .i64), (.int .i64), (.int .i64), (.int .i64), (.int .i64), (.int .i64), (.int .i64), (.int .i64), (.int .i64), (.int .i64)]) (.t 9) (.t 10)), none, 0⟩, ⟨(some 12), (.mv (.t 11)), none, 0⟩, ⟨(some 13), (.load (some 16) (.t 2)), (some (12, true)), 0⟩, ⟨(some 14), (.build (.ints .i64 [0, 0, 0, 0, 0, 0, 0, 0, 0, 0, 0, 0, 0, 0, 0, 0]) [(0, 1, (.c (.int .i64 1000)))]), (some (12, true)), 0⟩, ⟨(some 15), (.bin .neq (.cells [(.int .i64), (.int .i64), (.int .i64), (.int .i64), (.int .i64), (.int .i64), (.int .i64), (.int .i64), (.int .i64), (.int .i64), (.int .i64), (.int .i64), (.int .i64), (.int .i64), (.int .i64), (.int .i64)]) (.t 13) (.t 14)), (some (12, true)), 0⟩, ⟨(some 16), (.pick (.t 12) (.t 15) (.c (.bool false))), none, 0⟩, ⟨(some 17), (.mv (.t 16)), none, 0⟩, ⟨(some 18), (.load (some 16) (.t 2)), (some (17, true)), 0⟩, ⟨(some 19), (.build (.ints .i64 [0, 0, 0, 0, 0, 0, 0, 0, 0, 0, 0, 0, 0, 0, 0, 0]) []), (some (17, true)), 0⟩, ⟨(some 20), (.bin .neq (.cells [(.int .i64), (.int .i64), (.int .i64), (.int .i64), (.int .i64), (.int .i64), (.int .i64), (.int .i64), (.int .i64), (.int .i64), (.int .i64), (.int .i64), (.int .i64), (.int .i64), (.int .i64), (.int .i64)]) (.t 18) (.t 19)), (some (17, true)), 0⟩, ⟨(some 21), (.pick (.t 17) (.t 20) (.c (.bool false))), none, 0⟩, ⟨(some 22), (.mv (.t 21)), none, 0⟩, ⟨(some 23), (.load (some 16) (.t 1)), (some (22, true)), 0⟩, ⟨(some 24), (.load (some 16) (.t 2)), (some (22, true)), 0⟩, ⟨(some 25), (.callP 12 [(.t 23), (.t 24)]), (some (22, true)), 0⟩, ⟨(some 26), (.build (.ints .i64 [0, 0, 0, 0, 0, 0, 0, 0, 0, 0, 0, 0, 0, 0, 0, 0]) [(0, 1, (.c (.int .i64 1000)))]), (some (22, true)), 0⟩, ⟨(some 27), (.bin .eql (.cells [(.int .i64), (.int .i64), (.int .i64), (.int .i64), (.int .i64), (.int .i64), (.int .i64), (.int .i64), (.int .i64), (.int .i64), (.int .i64), (.int .i64), (.int .i64), (.int .i64), (.int .i64), (.int .i64)]) (.t 25) (.t 26)), (some (22, true)), 0⟩, ⟨(some 28), (.pick (.t 22) (.t 27) (.c (.bool false))), none, 0⟩, ⟨(some 0), (.mv (.t 28)), none, 0⟩], [7, 8, 9, 10, 11, 12, 13, 14, 15, 16, 17, 18, 19, 20, 21, 22, 23, 24, 25, 26, 27, 28], 0, false, []⟩
def sf7 : SFn := { np := 0, vars := [0, 1, 2], body := (.seq (.reg r7_0) (.seq (.reg r7_1) (.seq (.reg r7_2) (.seq (.reg r7_3) (.seq (.kill [1, 2]) .ret))))), res := [(.tmp 0)] }
/-! calliope/net.New -/
def r8_0 : Reg := ⟨[⟨(some 0), (.alloc (.ints .i64 [0, 0, 0, 0, 0, 0, 0, 0, 0, 0, 0, 0, 0, 0, 0, 0])), none, 0⟩], [], 1, true, []⟩
def r8_1 : Reg := ⟨[⟨(some 1), (.callP 13 []), none, 0⟩, ⟨(some 2), (.build (.ints .i64 [0, 0, 0, 0, 0, 0, 0, 0, 0, 0, 0, 0, 0, 0, 0, 0]) [(0, 16, (.t 1))]), none, 0⟩, ⟨none, (.store 16 (.t 0) (.t 2)), none, 0⟩], [1, 2], 0, false, []⟩
def sf8 : SFn := { np := 0, vars := [0], body := (.seq (.reg r8_0) (.seq (.reg r8_1) (.seq (.kill []) .ret))), res := [(.cell 0 (some 16))] }
/-! calliope/calliopelaw06.forward -/
def r10_0 : Reg := ⟨[⟨(some 1), (.box (.t 0)), none, 0⟩, ⟨(some 2), (.alloc (.ints .i64 [0, 0, 0, 0, 0, 0, 0, 0, 0, 0, 0, 0, 0, 0, 0, 0])), none, 1⟩], [], 2, true, []⟩
def r10_1 : Reg := ⟨[⟨(some 3), (.mv (.c (.int .i64 1))), none, 0⟩], [], 0, false, []⟩
def r10_2 : Reg := ⟨[⟨(some 4), (.mv (.c (.int .i64 0))), none, 0⟩], [], 0, false, []⟩
def r10_3 : Reg := ⟨[⟨(some 8), (.mv (.t 4)), none, 0⟩, ⟨(some 9), (.bin .lss (.int .i64) (.t 8) (.c (.int .i64 4))), none, 0⟩], [8], 0, false, []⟩
def r10_4 : Reg := ⟨[⟨(some 5), (.mv (.c (.int .i64 0))), none, 0⟩], [], 0, false, []⟩
def r10_5 : Reg := ⟨[⟨(some 12), (.mv (.t 5)), none, 0⟩, ⟨(some 13), (.bin .lss (.int .i64) (.t 12) (.c (.int .i64 16))), none, 0⟩], [12], 0, false, []⟩
def r10_6 : Reg := ⟨[⟨(some 16), (.mv (.t 5)), none, 0⟩, ⟨(some 17), (.mv (.t 3)), none, 0⟩, ⟨(some 18), (.bin .quo (.int .i64) (.t 16) (.t 17)), none, 0⟩, ⟨(some 19), (.bin .rem (.int .i64) (.t 18) (.c (.int .i64 2))), none, 0⟩, ⟨(some 20), (.bin .eql (.int .i64) (.t 19) (.c (.int .i64 0))), none, 0⟩], [16, 17, 18, 19], 0, false, []⟩
def r10_7 : Reg := ⟨[⟨(some 22), (.mv (.t 5)), none, 0⟩, ⟨(some 23), (.idxA 16 1 (.t 1) (.t 22)), none, 0⟩, ⟨(some 24), (.load none (.t 23)), none, 0⟩, ⟨(some 25), (.mv (.t 5)), none, 0⟩, ⟨(some 26), (.mv (.t 3)), none, 0⟩, ⟨(some 27), (.bin .add (.int .i64) (.t 25) (.t 26)), none, 0⟩, ⟨(some 28), (.idxA 16 1 (.t 1) (.t 27)), none, 0⟩, ⟨(some 29), (.load none (.t 28)), none, 0⟩, ⟨(some 30), (.mv (.t 5)), none, 0⟩, ⟨(some 31), (.bin .mul (.int .i64) (.c (.int .i64 3)) (.t 30)), none, 0⟩, ⟨(some 32), (.mv (.t 4)), none, 0⟩, ⟨(some 33), (.bin .mul (.int .i64) (.c (.int .i64 5)) (.t 32)), none, 0⟩, ⟨(some 34), (.bin .add (.int .i64) (.t 31) (.t 33)), none, 0⟩, ⟨(some 35), (.bin .rem (.int .i64) (.t 34) (.c (.int .i64 8))), none, 0⟩, ⟨(some 36), (.callP 16 [(.t 35)]), none, 0⟩, ⟨(some 37), (.callP 15 [(.t 24), (.t 29), (.t 36)]), none, 0⟩, ⟨(some 21), (.mv (.t 37)), none, 0⟩, ⟨(some 38), (.extract (.t 21) 0), none, 0⟩, ⟨(some 39), (.extract (.t 21) 1), none, 0⟩, ⟨(some 6), (.mv (.t 38)), none, 0⟩, ⟨(some 7), (.mv (.t 39)), none, 0⟩], [22, 23, 24, 25, 26, 27, 28, 29, 30, 31, 32, 33, 34, 35, 36, 37, 21, 38, 39], 0, false, []⟩
def r10_8 : Reg := ⟨[⟨(some 40), (.mv (.t 5)), none, 0⟩, ⟨(some 41), (.mv (.t 6)), none, 0⟩, ⟨(some 42), (.idxA 16 1 (.t 1) (.t 40)), none, 0⟩, ⟨none, (.store 1 (.t 42) (.t 41)), none, 0⟩], [40, 41, 42], 0, false, []⟩
def r10_9 : Reg := ⟨[⟨(some 43), (.mv (.t 5)), none, 0⟩, ⟨(some 44), (.mv (.t 3)), none, 0⟩, ⟨(some 45), (.bin .add (.int .i64) (.t 43) (.t 44)), none, 0⟩, ⟨(some 46), (.mv (.t 7)), none, 0⟩, ⟨(some 47), (.idxA 16 1 (.t 1) (.t 45)), none, 0⟩, ⟨none, (.store 1 (.t 47) (.t 46)), none, 0⟩], [43, 44, 45, 46, 47], 0, false, []⟩
def r10_10 : Reg := ⟨[⟨(some 14), (.mv (.t 5)), none, 0⟩, ⟨(some 15), (.bin .add (.int .i64) (.t 14) (.c (.int .i64 1))), none, 0⟩, ⟨(some 5), (.mv (.t 15)), none, 0⟩], [14, 15], 0, false, []⟩
def l10_11 : SC := (.seq (.seq (.seq (.reg r10_5) (.cond (.t 13) .skip (.seq (.kill [0, 5, 6, 7, 9, 13, 20]) (.exit 2)))) (.seq (.block 3 (.seq (.reg r10_6) (.cond (.t 20) (.seq (.reg r10_7) (.seq (.reg r10_8) (.reg r10_9))) .skip))) (.reg r10_10))) (.kill [0, 6, 7, 9, 13, 20]))
def r10_12 : Reg := ⟨[⟨(some 48), (.mv (.t 3)), none, 0⟩, ⟨(some 49), (.bin .mul (.int .i64) (.c (.int .i64 2)) (.t 48)), none, 0⟩, ⟨(some 3), (.mv (.t 49)), none, 0⟩], [48, 49], 0, false, []⟩
def r10_13 : Reg := ⟨[⟨(some 10), (.mv (.t 4)), none, 0⟩, ⟨(some 11), (.bin .add (.int .i64) (.t 10) (.c (.int .i64 1))), none, 0⟩, ⟨(some 4), (.mv (.t 11)), none, 0⟩], [10, 11], 0, false, []⟩
def l10_14 : SC := (.seq (.seq (.seq (.reg r10_3) (.cond (.t 9) .skip (.seq (.kill [0, 3, 4, 5, 6, 7, 9, 13, 20]) (.exit 0)))) (.seq (.block 1 (.seq (.seq (.reg r10_4) (.block 2 (.seq (.kill [0, 6, 7, 9, 13, 20]) (.loop l10_11)))) (.reg r10_12))) (.reg r10_13))) (.kill [0, 5, 6, 7, 9, 13, 20]))
def r10_15 : Reg := ⟨[⟨(some 50), (.load (some 16) (.t 1)), none, 0⟩, ⟨none, (.store 16 (.t 2) (.t 50)), none, 0⟩], [50], 0, false, []⟩
def sf10 : SFn := { np := 1, vars := [0, 1, 2, 3, 4, 5, 6, 7, 9, 13, 20], body := (.seq (.reg r10_0) (.seq (.reg r10_1) (.seq (.seq (.reg r10_2) (.block 0 (.seq (.kill [0, 5, 6, 7, 9, 13, 20]) (.loop l10_14)))) (.seq (.reg r10_15) (.seq (.kill [0, 1, 3, 4, 5, 6, 7, 9, 13, 20]) .ret))))), res := [(.cell 2 (some 16))] }
/-! calliope/net.Bound -/
def r11_0 : Reg := ⟨[⟨(some 2), (.mv (.c (.int .i64 0))), none, 0⟩], [], 0, false, []⟩
def r11_1 : Reg := ⟨[⟨(some 3), (.mv (.c (.int .i64 0))), none, 0⟩], [], 0, false, []⟩
def r11_2 : Reg := ⟨[⟨(some 4), (.bin .lss (.int .i64) (.t 3) (.c (.int .i64 4))), none, 0⟩], [], 0, false, []⟩
def r11_3 : Reg := ⟨[⟨(some 5), (.mv (.t 0)), none, 0⟩, ⟨(some 6), (.bin .mul (.int .i64) (.c (.int .i64 3)) (.t 5)), none, 0⟩, ⟨(some 7), (.bin .add (.int .i64) (.t 6) (.c (.int .i64 4))), none, 0⟩, ⟨(some 0), (.mv (.t 7)), none, 0⟩], [5, 6, 7], 0, false, []⟩
def r11_4 : Reg := ⟨[⟨(some 8), (.bin .add (.int .i64) (.t 3) (.c (.int .i64 1))), none, 0⟩, ⟨(some 3), (.mv (.t 8)), none, 0⟩], [8], 0, false, []⟩
def l11_5 : SC := (.seq (.seq (.reg r11_2) (.seq (.cond (.t 4) .skip (.seq (.kill [2, 3, 4]) (.exit 0))) (.seq (.block 1 (.reg r11_3)) (.reg r11_4)))) (.kill [2, 4]))
def r11_6 : Reg := ⟨[⟨(some 9), (.mv (.t 0)), none, 0⟩, ⟨(some 2), (.mv (.t 9)), none, 0⟩], [9], 0, false, []⟩
def sf11 : SFn := { np := 1, vars := [0, 2, 3, 4], body := (.seq (.reg r11_0) (.seq (.seq (.reg r11_1) (.block 0 (.seq (.kill [2, 4]) (.loop l11_5)))) (.seq (.reg r11_6) (.seq (.kill [0, 3, 4]) .ret)))), res := [(.tmp 2)] }
/-! calliope/table.Turns -/
def r13_0 : Reg := ⟨[⟨(some 0), (.alloc (.ints .i64 [0, 0, 0, 0, 0, 0, 0, 0, 0, 0, 0, 0, 0, 0, 0, 0])), none, 0⟩], [], 1, true, []⟩
def r13_1 : Reg := ⟨[⟨(some 1), (.alloc (.ints .i64 [0, 0, 0, 0, 0, 0, 0, 0, 0, 0, 0, 0, 0, 0, 0, 0])), none, 0⟩], [], 1, true, []⟩
def r13_2 : Reg := ⟨[⟨(some 3), (.mv (.c (.int .i64 0))), none, 0⟩], [], 0, false, []⟩
def r13_3 : Reg := ⟨[⟨(some 4), (.bin .lss (.int .i64) (.t 3) (.c (.int .i64 8))), none, 0⟩], [], 0, false, []⟩
def r13_4 : Reg := ⟨[⟨(some 5), (.mv (.t 3)), none, 0⟩, ⟨(some 2), (.mv (.t 5)), none, 0⟩], [5], 0, false, []⟩
def r13_5 : Reg := ⟨[⟨(some 6), (.mv (.t 2)), none, 0⟩, ⟨(some 7), (.mv (.t 2)), none, 0⟩, ⟨(some 8), (.callP 16 [(.t 7)]), none, 0⟩, ⟨(some 9), (.idxA 8 2 (.t 1) (.t 6)), none, 0⟩, ⟨none, (.store 2 (.t 9) (.t 8)), none, 0⟩], [6, 7, 8, 9], 0, false, []⟩
def r13_6 : Reg := ⟨[⟨(some 10), (.bin .add (.int .i64) (.t 3) (.c (.int .i64 1))), none, 0⟩, ⟨(some 3), (.mv (.t 10)), none, 0⟩], [10], 0, false, []⟩
def l13_7 : SC := (.seq (.seq (.reg r13_3) (.seq (.cond (.t 4) .skip (.seq (.kill [2, 3, 4]) (.exit 0))) (.seq (.block 1 (.seq (.reg r13_4) (.reg r13_5))) (.reg r13_6)))) (.kill [2, 4]))
def r13_8 : Reg := ⟨[⟨(some 11), (.load (some 16) (.t 1)), none, 0⟩, ⟨none, (.store 16 (.t 0) (.t 11)), none, 0⟩], [11], 0, false, []⟩
def sf13 : SFn := { np := 0, vars := [0, 1, 2, 3, 4], body := (.seq (.reg r13_0) (.seq (.reg r13_1) (.seq (.seq (.reg r13_2) (.block 0 (.seq (.kill [2, 4]) (.loop l13_7)))) (.seq (.reg r13_8) (.seq (.kill [1, 2, 3, 4]) .ret))))), res := [(.cell 0 (some 16))] }
/-! calliope/lift.Turn -/
def r15_0 : Reg := ⟨[⟨(some 5), (.box (.t 2)), none, 0⟩, ⟨(some 6), (.mv (.c (.int .i64 0))), none, 1⟩, ⟨(some 7), (.mv (.c (.int .i64 0))), none, 1⟩], [], 1, true, []⟩
def r15_1 : Reg := ⟨[⟨(some 8), (.mv (.t 0)), none, 0⟩, ⟨(some 9), (.fieldAddr 0 (.t 5)), none, 0⟩, ⟨(some 10), (.load none (.t 9)), none, 0⟩, ⟨(some 11), (.mv (.t 1)), none, 0⟩, ⟨(some 12), (.callP 20 [(.t 10), (.t 11)]), none, 0⟩, ⟨(some 13), (.bin .add (.int .i64) (.t 8) (.t 12)), none, 0⟩, ⟨(some 0), (.mv (.t 13)), none, 0⟩], [8, 9, 10, 11, 12, 13], 0, false, []⟩
def r15_2 : Reg := ⟨[⟨(some 14), (.mv (.t 1)), none, 0⟩, ⟨(some 15), (.fieldAddr 1 (.t 5)), none, 0⟩, ⟨(some 16), (.load none (.t 15)), none, 0⟩, ⟨(some 17), (.mv (.t 0)), none, 0⟩, ⟨(some 18), (.callP 20 [(.t 16), (.t 17)]), none, 0⟩, ⟨(some 19), (.bin .sub (.int .i64) (.t 14) (.t 18)), none, 0⟩, ⟨(some 1), (.mv (.t 19)), none, 0⟩], [14, 15, 16, 17, 18, 19], 0, false, []⟩
def r15_3 : Reg := ⟨[⟨(some 20), (.mv (.t 0)), none, 0⟩, ⟨(some 21), (.fieldAddr 0 (.t 5)), none, 0⟩, ⟨(some 22), (.load none (.t 21)), none, 0⟩, ⟨(some 23), (.mv (.t 1)), none, 0⟩, ⟨(some 24), (.callP 20 [(.t 22), (.t 23)]), none, 0⟩, ⟨(some 25), (.bin .add (.int .i64) (.t 20) (.t 24)), none, 0⟩, ⟨(some 0), (.mv (.t 25)), none, 0⟩], [20, 21, 22, 23, 24, 25], 0, false, []⟩
def r15_4 : Reg := ⟨[⟨(some 26), (.mv (.t 0)), none, 0⟩, ⟨(some 27), (.mv (.t 1)), none, 0⟩, ⟨(some 6), (.mv (.t 26)), none, 0⟩, ⟨(some 7), (.mv (.t 27)), none, 0⟩], [26, 27], 0, false, []⟩
def sf15 : SFn := { np := 3, vars := [0, 1, 2, 5, 6, 7], body := (.seq (.reg r15_0) (.seq (.reg r15_1) (.seq (.reg r15_2) (.seq (.reg r15_3) (.seq (.reg r15_4) (.seq (.kill [0, 1, 2, 5]) .ret)))))), res := [(.tmp 6), (.tmp 7)] }
/-! calliope/table.Turn -/
def r16_0 : Reg := ⟨[⟨(some 2), (.alloc (.ints .i64 [0, 0])), none, 0⟩], [], 1, true, []⟩
def r16_1 : Reg := ⟨[⟨(some 5), (.mv (.t 0)), none, 0⟩, ⟨(some 6), (.bin .lss (.int .i64) (.t 5) (.c (.int .i64 0))), none, 0⟩, ⟨(some 7), (.mv (.t 6)), none, 0⟩, ⟨(some 8), (.mv (.t 0)), (some (7, false)), 0⟩, ⟨(some 9), (.bin .geq (.int .i64) (.t 8) (.c (.int .i64 8))), (some (7, false)), 0⟩, ⟨(some 10), (.pick (.t 7) (.c (.bool true)) (.t 9)), none, 0⟩], [5, 6, 7, 8, 9], 0, false, []⟩
def r16_2 : Reg := ⟨[⟨(some 11), (.build (.ints .i64 [0, 0]) []), none, 0⟩, ⟨none, (.store 2 (.t 2) (.t 11)), none, 0⟩], [11], 0, false, []⟩
def r16_3 : Reg := ⟨[⟨(some 12), (.mv (.t 0)), none, 0⟩, ⟨(some 13), (.bin .mul (.int .i64) (.c (.int .i64 2)) (.t 12)), none, 0⟩, ⟨(some 14), (.bin .add (.int .i64) (.t 13) (.c (.int .i64 1))), none, 0⟩, ⟨(some 3), (.mv (.t 14)), none, 0⟩], [12, 13, 14], 0, false, []⟩
def r16_4 : Reg := ⟨[⟨(some 15), (.mv (.t 3)), none, 0⟩, ⟨(some 16), (.mv (.t 3)), none, 0⟩, ⟨(some 17), (.bin .mul (.int .i64) (.t 15) (.t 16)), none, 0⟩, ⟨(some 18), (.bin .add (.int .i64) (.c (.int .i64 1024)) (.t 17)), none, 0⟩, ⟨(some 4), (.mv (.t 18)), none, 0⟩], [15, 16, 17, 18], 0, false, []⟩
def r16_5 : Reg := ⟨[⟨(some 19), (.mv (.t 3)), none, 0⟩, ⟨(some 20), (.bin .shl (.int .i64) (.t 19) (.c (.int .u64 9))), none, 0⟩, ⟨(some 21), (.mv (.t 3)), none, 0⟩, ⟨(some 22), (.bin .shl (.int .i64) (.t 21) (.c (.int .u64 20))), none, 0⟩, ⟨(some 23), (.mv (.t 4)), none, 0⟩, ⟨(some 24), (.bin .quo (.int .i64) (.t 23) (.c (.int .i64 2))), none, 0⟩, ⟨(some 25), (.bin .add (.int .i64) (.t 22) (.t 24)), none, 0⟩, ⟨(some 26), (.mv (.t 4)), none, 0⟩, ⟨(some 27), (.bin .quo (.int .i64) (.t 25) (.t 26)), none, 0⟩, ⟨(some 28), (.build (.ints .i64 [0, 0]) [(0, 1, (.t 20)), (1, 1, (.t 27))]), none, 0⟩, ⟨none, (.store 2 (.t 2) (.t 28)), none, 0⟩], [19, 20, 21, 22, 23, 24, 25, 26, 27, 28], 0, false, []⟩
def sf16 : SFn := { np := 1, vars := [0, 2, 3, 4, 10], body := (.seq (.reg r16_0) (.seq (.seq (.reg r16_1) (.cond (.t 10) (.seq (.reg r16_2) (.seq (.kill [0, 3, 4, 10]) .ret)) .skip)) (.seq (.reg r16_3) (.seq (.reg r16_4) (.seq (.reg r16_5) (.seq (.kill [0, 3, 4, 10]) .ret)))))), res := [(.cell 2 (some 2))] }
/-! calliope/lift.Back -/
def r17_0 : Reg := ⟨[⟨(some 5), (.box (.t 2)), none, 0⟩, ⟨(some 6), (.mv (.c (.int .i64 0))), none, 1⟩, ⟨(some 7), (.mv (.c (.int .i64 0))), none, 1⟩], [], 1, true, []⟩
def r17_1 : Reg := ⟨[⟨(some 8), (.mv (.t 0)), none, 0⟩, ⟨(some 9), (.fieldAddr 0 (.t 5)), none, 0⟩, ⟨(some 10), (.load none (.t 9)), none, 0⟩, ⟨(some 11), (.mv (.t 1)), none, 0⟩, ⟨(some 12), (.callP 20 [(.t 10), (.t 11)]), none, 0⟩, ⟨(some 13), (.bin .sub (.int .i64) (.t 8) (.t 12)), none, 0⟩, ⟨(some 0), (.mv (.t 13)), none, 0⟩], [8, 9, 10, 11, 12, 13], 0, false, []⟩
def r17_2 : Reg := ⟨[⟨(some 14), (.mv (.t 1)), none, 0⟩, ⟨(some 15), (.fieldAddr 1 (.t 5)), none, 0⟩, ⟨(some 16), (.load none (.t 15)), none, 0⟩, ⟨(some 17), (.mv (.t 0)), none, 0⟩, ⟨(some 18), (.callP 20 [(.t 16), (.t 17)]), none, 0⟩, ⟨(some 19), (.bin .add (.int .i64) (.t 14) (.t 18)), none, 0⟩, ⟨(some 1), (.mv (.t 19)), none, 0⟩], [14, 15, 16, 17, 18, 19], 0, false, []⟩
def r17_3 : Reg := ⟨[⟨(some 20), (.mv (.t 0)), none, 0⟩, ⟨(some 21), (.fieldAddr 0 (.t 5)), none, 0⟩, ⟨(some 22), (.load none (.t 21)), none, 0⟩, ⟨(some 23), (.mv (.t 1)), none, 0⟩, ⟨(some 24), (.callP 20 [(.t 22), (.t 23)]), none, 0⟩, ⟨(some 25), (.bin .sub (.int .i64) (.t 20) (.t 24)), none, 0⟩, ⟨(some 0), (.mv (.t 25)), none, 0⟩], [20, 21, 22, 23, 24, 25], 0, false, []⟩
def r17_4 : Reg := ⟨[⟨(some 26), (.mv (.t 0)), none, 0⟩, ⟨(some 27), (.mv (.t 1)), none, 0⟩, ⟨(some 6), (.mv (.t 26)), none, 0⟩, ⟨(some 7), (.mv (.t 27)), none, 0⟩], [26, 27], 0, false, []⟩
def sf17 : SFn := { np := 3, vars := [0, 1, 2, 5, 6, 7], body := (.seq (.reg r17_0) (.seq (.reg r17_1) (.seq (.reg r17_2) (.seq (.reg r17_3) (.seq (.reg r17_4) (.seq (.kill [0, 1, 2, 5]) .ret)))))), res := [(.tmp 6), (.tmp 7)] }
/-! calliope/lift.part -/
def r20_0 : Reg := ⟨[⟨(some 4), (.mv (.c (.int .i64 0))), none, 0⟩], [], 0, false, []⟩
def r20_1 : Reg := ⟨[⟨(some 5), (.mv (.t 0)), none, 0⟩, ⟨(some 6), (.mv (.t 1)), none, 0⟩, ⟨(some 7), (.bin .mul (.int .i64) (.t 5) (.t 6)), none, 0⟩, ⟨(some 8), (.callP 21 [(.t 7), (.c (.int .i64 14))]), none, 0⟩, ⟨(some 4), (.mv (.t 8)), none, 0⟩], [5, 6, 7, 8], 0, false, []⟩
def sf20 : SFn := { np := 2, vars := [0, 1, 4], body := (.seq (.reg r20_0) (.seq (.reg r20_1) (.seq (.kill [0, 1]) .ret))), res := [(.tmp 4)] }
/-! calliope/num.Round -/
def r21_0 : Reg := ⟨[⟨(some 4), (.mv (.c (.int .i64 0))), none, 0⟩], [], 0, false, []⟩
def r21_1 : Reg := ⟨[⟨(some 6), (.mv (.t 1)), none, 0⟩, ⟨(some 7), (.bin .lss (.int .i64) (.t 6) (.c (.int .i64 0))), none, 0⟩, ⟨(some 8), (.mv (.t 7)), none, 0⟩, ⟨(some 9), (.mv (.t 1)), (some (8, false)), 0⟩, ⟨(some 10), (.bin .gtr (.int .i64) (.t 9) (.c (.int .i64 62))), (some (8, false)), 0⟩, ⟨(some 11), (.pick (.t 8) (.c (.bool true)) (.t 10)), none, 0⟩, ⟨(some 5), (.mv (.t 11)), none, 0⟩], [6, 7, 8, 9, 10, 11], 0, false, []⟩
def r21_2 : Reg := ⟨[⟨(some 4), (.mv (.c (.int .i64 0))), none, 0⟩], [], 0, false, []⟩
def r21_3 : Reg := ⟨[⟨(some 13), (.mv (.t 1)), none, 0⟩, ⟨(some 14), (.bin .eql (.int .i64) (.t 13) (.c (.int .i64 0))), none, 0⟩, ⟨(some 12), (.mv (.t 14)), none, 0⟩], [13, 14], 0, false, []⟩
def r21_4 : Reg := ⟨[⟨(some 15), (.mv (.t 0)), none, 0⟩, ⟨(some 4), (.mv (.t 15)), none, 0⟩], [15], 0, false, []⟩
def r21_5 : Reg := ⟨[⟨(some 16), (.mv (.t 0)), none, 0⟩, ⟨(some 17), (.mv (.t 1)), none, 0⟩, ⟨(some 18), (.bin .shr (.int .i64) (.t 16) (.t 17)), none, 0⟩, ⟨(some 19), (.mv (.t 0)), none, 0⟩, ⟨(some 20), (.mv (.t 1)), none, 0⟩, ⟨(some 21), (.bin .sub (.int .i64) (.t 20) (.c (.int .i64 1))), none, 0⟩, ⟨(some 22), (.bin .shr (.int .i64) (.t 19) (.t 21)), none, 0⟩, ⟨(some 23), (.bin .and (.int .i64) (.t 22) (.c (.int .i64 1))), none, 0⟩, ⟨(some 24), (.bin .add (.int .i64) (.t 18) (.t 23)), none, 0⟩, ⟨(some 4), (.mv (.t 24)), none, 0⟩], [16, 17, 18, 19, 20, 21, 22, 23, 24], 0, false, []⟩
def sf21 : SFn := { np := 2, vars := [0, 1, 4, 5, 12], body := (.seq (.reg r21_0) (.seq (.block 0 (.seq (.reg r21_1) (.cond (.t 5) (.seq (.reg r21_2) (.seq (.kill [0, 1, 5, 12]) .ret)) (.seq (.reg r21_3) (.cond (.t 12) (.seq (.reg r21_4) (.seq (.kill [0, 1, 5, 12]) .ret)) .skip))))) (.seq (.reg r21_5) (.seq (.kill [0, 1, 5, 12]) .ret)))), res := [(.tmp 4)] }
/-! (calliope/net.Net).Forward -/
def sf9 : SFn := { np := 0, vars := [], body := .skip, res := [], ext := some (netG 15 rsF) }
theorem k9 : callable Try.prog 9 = true := by kernel_rfl
/-! (calliope/net.Net).Inverse -/
def sf12 : SFn := { np := 0, vars := [], body := .skip, res := [], ext := some (netG 17 rsI) }
theorem k12 : callable Try.prog 12 = true := by kernel_rfl
theorem c3 : cFn Try.prog 3 = some sf3 := by kernel_rfl
theorem k3 : callable Try.prog 3 = true := by kernel_rfl
theorem p3 : ∀ F, Try.prog.funcs[3]? = some F → F.params.size ≤ F.ntmps := fun F h => by rw [Try.func3] at h; cases h; exact of_decide_eq_true (by kernel_rfl)
theorem c4 : cFn Try.prog 4 = some sf4 := by kernel_rfl
theorem k4 : callable Try.prog 4 = true := by kernel_rfl
theorem p4 : ∀ F, Try.prog.funcs[4]? = some F → F.params.size ≤ F.ntmps := fun F h => by rw [Try.func4] at h; cases h; exact of_decide_eq_true (by kernel_rfl)
theorem c5 : cFn Try.prog 5 = some sf5 := by kernel_rfl
theorem k5 : callable Try.prog 5 = true := by kernel_rfl
theorem p5 : ∀ F, Try.prog.funcs[5]? = some F → F.params.size ≤ F.ntmps := fun F h => by rw [Try.func5] at h; cases h; exact of_decide_eq_true (by kernel_rfl)
theorem c6 : cFn Try.prog 6 = some sf6 := by kernel_rfl
theorem k6 : callable Try.prog 6 = true := by kernel_rfl
theorem p6 : ∀ F, Try.prog.funcs[6]? = some F → F.params.size ≤ F.ntmps := fun F h => by rw [Try.func6] at h; cases h; exact of_decide_eq_true (by kernel_rfl)
theorem c7 : cFn Try.prog 7 = some sf7 := by kernel_rfl
theorem k7 : callable Try.prog 7 = true := by kernel_rfl
theorem p7 : ∀ F, Try.prog.funcs[7]? = some F → F.params.size ≤ F.ntmps := fun F h => by rw [Try.func7] at h; cases h; exact of_decide_eq_true (by kernel_rfl)
theorem c8 : cFn Try.prog 8 = some sf8 := by kernel_rfl
theorem k8 : callable Try.prog 8 = true := by kernel_rfl
theorem p8 : ∀ F, Try.prog.funcs[8]? = some F → F.params.size ≤ F.ntmps := fun F h => by rw [Try.func8] at h; cases h; exact of_decide_eq_true (by kernel_rfl)
theorem c10 : cFn Try.prog 10 = some sf10 := by kernel_rfl
theorem k10 : callable Try.prog 10 = true := by kernel_rfl
theorem p10 : ∀ F, Try.prog.funcs[10]? = some F → F.params.size ≤ F.ntmps := fun F h => by rw [Try.func10] at h; cases h; exact of_decide_eq_true (by kernel_rfl)
theorem c11 : cFn Try.prog 11 = some sf11 := by kernel_rfl
theorem k11 : callable Try.prog 11 = true := by kernel_rfl
theorem p11 : ∀ F, Try.prog.funcs[11]? = some F → F.params.size ≤ F.ntmps := fun F h => by rw [Try.func11] at h; cases h; exact of_decide_eq_true (by kernel_rfl)
theorem c13 : cFn Try.prog 13 = some sf13 := by kernel_rfl
theorem k13 : callable Try.prog 13 = true := by kernel_rfl
theorem p13 : ∀ F, Try.prog.funcs[13]? = some F → F.params.size ≤ F.ntmps := fun F h => by rw [Try.func13] at h; cases h; exact of_decide_eq_true (by kernel_rfl)
theorem c15 : cFn Try.prog 15 = some sf15 := by kernel_rfl
theorem k15 : callable Try.prog 15 = true := by kernel_rfl
theorem p15 : ∀ F, Try.prog.funcs[15]? = some F → F.params.size ≤ F.ntmps := fun F h => by rw [Try.func15] at h; cases h; exact of_decide_eq_true (by kernel_rfl)
theorem c16 : cFn Try.prog 16 = some sf16 := by kernel_rfl
theorem k16 : callable Try.prog 16 = true := by kernel_rfl
theorem p16 : ∀ F, Try.prog.funcs[16]? = some F → F.params.size ≤ F.ntmps := fun F h => by rw [Try.func16] at h; cases h; exact of_decide_eq_true (by kernel_rfl)
theorem c17 : cFn Try.prog 17 = some sf17 := by kernel_rfl
theorem k17 : callable Try.prog 17 = true := by kernel_rfl
theorem p17 : ∀ F, Try.prog.funcs[17]? = some F → F.params.size ≤ F.ntmps := fun F h => by rw [Try.func17] at h; cases h; exact of_decide_eq_true (by kernel_rfl)
theorem c20 : cFn Try.prog 20 = some sf20 := by kernel_rfl
theorem k20 : callable Try.prog 20 = true := by kernel_rfl
theorem p20 : ∀ F, Try.prog.funcs[20]? = some F → F.params.size ≤ F.ntmps := fun F h => by rw [Try.func20] at h; cases h; exact of_decide_eq_true (by kernel_rfl)
theorem c21 : cFn Try.prog 21 = some sf21 := by kernel_rfl
theorem k21 : callable Try.prog 21 = true := by kernel_rfl
theorem p21 : ∀ F, Try.prog.funcs[21]? = some F → F.params.size ≤ F.ntmps := fun F h => by rw [Try.func21] at h; cases h; exact of_decide_eq_true (by kernel_rfl)
def tab : FuncId → Option SFn := tabL [(3, sf3), (4, sf4), (5, sf5), (6, sf6), (7, sf7), (8, sf8), (10, sf10), (11, sf11), (13, sf13), (15, sf15), (16, sf16), (17, sf17), (20, sf20), (21, sf21), (9, sf9), (12, sf12)]
theorem tabOk : TabOk Try.prog tab :=
  tabOk_cons c3 k3 p3 (tabOk_cons c4 k4 p4 (tabOk_cons c5 k5 p5 (tabOk_cons c6 k6 p6 (tabOk_cons c7 k7 p7 (tabOk_cons c8 k8 p8 (tabOk_cons c10 k10 p10 (tabOk_cons c11 k11 p11 (tabOk_cons c13 k13 p13 (tabOk_cons c15 k15 p15 (tabOk_cons c16 k16 p16 (tabOk_cons c17 k17 p17 (tabOk_cons c20 k20 p20 (tabOk_cons c21 k21 p21 (tabOk_ext rfl k9 extF (tabOk_ext rfl k12 extI (tabOk_nil _))))))))))))))))
theorem t3 : tab 3 = some sf3 := rfl
theorem t4 : tab 4 = some sf4 := rfl
theorem t5 : tab 5 = some sf5 := rfl
theorem t6 : tab 6 = some sf6 := rfl
theorem t7 : tab 7 = some sf7 := rfl
theorem t8 : tab 8 = some sf8 := rfl
theorem t10 : tab 10 = some sf10 := rfl
theorem t11 : tab 11 = some sf11 := rfl
theorem t13 : tab 13 = some sf13 := rfl
theorem t15 : tab 15 = some sf15 := rfl
theorem t16 : tab 16 = some sf16 := rfl
theorem t17 : tab 17 = some sf17 := rfl
theorem t20 : tab 20 = some sf20 := rfl
theorem t21 : tab 21 = some sf21 := rfl
theorem t9 : tab 9 = some sf9 := rfl
theorem t12 : tab 12 = some sf12 := rfl
end Go.Proofs.Ytbamcklflcikoaa
