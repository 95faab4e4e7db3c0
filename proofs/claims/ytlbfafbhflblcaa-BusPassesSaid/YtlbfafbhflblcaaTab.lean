/-
  The abstract forms of this seat's functions, by program, and that they are the ones that the model's code has. Conditions: none.
-/
import Derived.Test.YtlbfafbhflblcaaRows
import Derived.Test.YtlbfafbhflblcaaSxP
namespace Go.Proofs.Ytlbfafbhflblcaa
open Go Go.Sx
set_option maxRecDepth 100000
def r4_0 : Reg := ⟨[oS 4 (.mv (.c (.bool false)))], [], 0, false, []⟩
def r4_1 : Reg := ⟨[oM 21 0, oS 22 (.len .slice (.t 21)), oS 23 (.bin .gtr (.int .i64) (.t 22) (.c (.int .i64 20)))], [21, 22], 0, false, []⟩
def r4_2 : Reg := ⟨[oM 24 0, oS 25 (.slS 10 (.t 24) none (some (.c (.int .i64 20)))), oM 0 25], [24, 25], 0, false, []⟩
def r4_3 : Reg := ⟨[oM 27 0, oS 28 (.call 9 [(.t 27)]), oM 26 28, oS 29 (.extract (.t 26) 0), oS 30 (.extract (.t 26) 1), oM 5 29, oM 6 30], [27, 28, 26, 29, 30], 0, true, []⟩
def r4_4 : Reg := ⟨[oS 7 (.mv (.c (.bool true)))], [], 0, false, []⟩
def r4_5 : Reg := ⟨[oS 8 (.mv (.c (.int .i64 0)))], [], 0, false, []⟩
def r4_6 : Reg := ⟨[oM 31 8, oM 32 0, oS 33 (.len .slice (.t 32)), oS 34 (.bin .lss (.int .i64) (.t 31) (.t 33))], [31, 32, 33], 0, false, []⟩
def r4_7 : Reg := ⟨[oM 37 0, oM 38 8, oS 39 (.idxS 10 (.t 37) (.t 38)), oS 40 (.load (some 10) (.t 39)), oS 41 (.callP 10 [(.t 40)]), oM 42 0, oM 43 8, oS 44 (.idxS 10 (.t 42) (.t 43)), oS 45 (.load (some 10) (.t 44)), oS 46 (.callP 11 [(.t 45)]), oS 47 (.bin .neq .bool (.t 41) (.t 46))], [37, 38, 39, 40, 41, 42, 43, 44, 45, 46], 0, false, []⟩
def r4_8 : Reg := ⟨[oS 4 (.mv (.c (.bool false)))], [], 0, false, []⟩
def r4_9 : Reg := ⟨[oM 48 7, oM 49 48, oG 50 (.mv (.t 0)) 49 true, oG 51 (.mv (.t 8)) 49 true, oG 52 (.idxS 10 (.t 50) (.t 51)) 49 true, oG 53 (.load (some 10) (.t 52)) 49 true, oG 54 (.callP 11 [(.t 53)]) 49 true, oS 55 (.pick (.t 49) (.t 54) (.c (.bool false))), oM 7 55], [48, 49, 50, 51, 52, 53, 54, 55], 0, false, []⟩
def r4_10 : Reg := ⟨[oM 35 8, oS 36 (.bin .add (.int .i64) (.t 35) (.c (.int .i64 1))), oM 8 36], [35, 36], 0, false, []⟩
def l4_11 : SC := (.seq (.seq (.seq (.reg r4_6) (.cond (.t 34) .skip (.seq (.kill [4, 8, 9, 10, 11, 12, 13, 14, 15, 16, 17, 18, 19, 20, 23, 34, 47, 58, 69, 92, 102, 111, 121, 125, 138, 174]) (.exit 0)))) (.seq (.block 1 (.seq (.seq (.reg r4_7) (.cond (.t 47) (.seq (.reg r4_8) (.seq (.kill [0, 1, 5, 6, 7, 8, 9, 10, 11, 12, 13, 14, 15, 16, 17, 18, 19, 20, 23, 34, 47, 58, 69, 92, 102, 111, 121, 125, 138, 174]) .ret)) .skip)) (.reg r4_9))) (.reg r4_10))) (.kill [4, 9, 10, 11, 12, 13, 14, 15, 16, 17, 18, 19, 20, 23, 34, 47, 58, 69, 92, 102, 111, 121, 125, 138, 174]))
def r4_12 : Reg := ⟨[oM 56 0, oS 57 (.len .slice (.t 56)), oS 58 (.bin .gtr (.int .i64) (.t 57) (.c (.int .i64 16)))], [56, 57], 0, false, []⟩
def r4_13 : Reg := ⟨[oM 59 5, oS 60 (.bin .eql .ptr (.t 59) (.c .nilp)), oM 61 60, oG 62 (.mv (.t 6)) 61 true, oG 63 (.bin .eql (.int .i64) (.t 62) (.c (.int .i64 6))) 61 true, oS 64 (.pick (.t 61) (.t 63) (.c (.bool false))), oM 65 64, oG 66 (.callP 6 []) 65 true, oS 67 (.pick (.t 65) (.t 66) (.c (.bool false))), oM 4 67], [59, 60, 61, 62, 63, 64, 65, 66, 67], 0, false, []⟩
def r4_14 : Reg := ⟨[oM 68 7, oS 69 (.un .not (.t 68))], [68], 0, false, []⟩
def r4_15 : Reg := ⟨[oM 70 5, oS 71 (.bin .eql .ptr (.t 70) (.c .nilp)), oM 72 71, oG 73 (.mv (.t 6)) 72 true, oG 74 (.bin .eql (.int .i64) (.t 73) (.c (.int .i64 1))) 72 true, oS 75 (.pick (.t 72) (.t 74) (.c (.bool false))), oM 76 75, oG 77 (.callP 6 []) 76 true, oS 78 (.pick (.t 76) (.t 77) (.c (.bool false))), oM 4 78], [70, 71, 72, 73, 74, 75, 76, 77, 78], 0, false, []⟩
def r4_16 : Reg := ⟨[oM 79 5, oS 80 (.bin .eql .ptr (.t 79) (.c .nilp)), oM 81 80, oG 82 (.mv (.t 6)) 81 false, oG 83 (.bin .neq (.int .i64) (.t 82) (.c (.int .i64 0))) 81 false, oS 84 (.pick (.t 81) (.c (.bool true)) (.t 83)), oM 85 84, oG 86 (.mv (.t 5)) 85 false, oG 87 (.call 12 [(.t 86)]) 85 false, oG 88 (.len .slice (.t 87)) 85 false, oG 89 (.mv (.t 0)) 85 false, oG 90 (.len .slice (.t 89)) 85 false, oG 91 (.bin .neq (.int .i64) (.t 88) (.t 90)) 85 false, oS 92 (.pick (.t 85) (.c (.bool true)) (.t 91))], [79, 80, 81, 82, 83, 84, 85, 86, 87, 88, 89, 90, 91], 0, true, []⟩
def r4_17 : Reg := ⟨[oS 4 (.mv (.c (.bool false)))], [], 0, false, []⟩
def r4_18 : Reg := ⟨[oM 93 0, oS 94 (.call 13 [(.t 93)]), oM 9 94], [93, 94], 0, true, []⟩
def r4_19 : Reg := ⟨[oS 10 (.mv (.c (.int .i64 0)))], [], 0, false, []⟩
def r4_20 : Reg := ⟨[oS 11 (.alloc (.ints .i64 [0, 0, 0, 0, 0, 0, 0, 0, 0])), ⟨(some 12), (.alloc (.ints .i64 [0, 0, 0, 0, 0, 0, 0, 0, 0])), none, 1⟩], [], 2, true, []⟩
def r4_21 : Reg := ⟨[oS 13 (.mv (.c (.int .i64 0)))], [], 0, false, []⟩
def r4_22 : Reg := ⟨[oM 95 13, oM 96 1, oS 97 (.len .slice (.t 96)), oS 98 (.bin .lss (.int .i64) (.t 95) (.t 97)), oM 99 98, oG 100 (.mv (.t 13)) 99 true, oG 101 (.bin .lss (.int .i64) (.t 100) (.c (.int .i64 10))) 99 true, oS 102 (.pick (.t 99) (.t 101) (.c (.bool false)))], [95, 96, 97, 98, 99, 100, 101], 0, false, []⟩
def r4_23 : Reg := ⟨[oM 105 1, oM 106 13, oS 107 (.idxS 1 (.t 105) (.t 106)), oS 108 (.load none (.t 107)), oM 14 108], [105, 106, 107, 108], 0, false, []⟩
def r4_24 : Reg := ⟨[oM 109 14, oS 110 (.len .slice (.t 109)), oS 111 (.bin .gtr (.int .i64) (.t 110) (.c (.int .i64 30)))], [109, 110], 0, false, []⟩
def r4_25 : Reg := ⟨[oM 112 14, oS 113 (.slS 2 (.t 112) none (some (.c (.int .i64 30)))), oM 14 113], [112, 113], 0, false, []⟩
def r4_26 : Reg := ⟨[oM 114 5, oM 115 14, oS 116 (.call 14 [(.t 114), (.t 115)]), oM 15 116], [114, 115, 116], 0, true, []⟩
def r4_27 : Reg := ⟨[oM 117 15, oS 118 (.len .slice (.t 117)), oM 119 14, oS 120 (.len .slice (.t 119)), oS 121 (.bin .neq (.int .i64) (.t 118) (.t 120))], [117, 118, 119, 120], 0, false, []⟩
def r4_28 : Reg := ⟨[oS 4 (.mv (.c (.bool false)))], [], 0, false, []⟩
def r4_29 : Reg := ⟨[oS 16 (.mv (.c (.int .i64 0)))], [], 0, false, []⟩
def r4_30 : Reg := ⟨[oM 122 16, oM 123 14, oS 124 (.len .slice (.t 123)), oS 125 (.bin .lss (.int .i64) (.t 122) (.t 124))], [122, 123, 124], 0, false, []⟩
def r4_31 : Reg := ⟨[oM 128 15, oM 129 16, oS 130 (.idxS 2 (.t 128) (.t 129)), oS 131 (.load (some 2) (.t 130)), oM 132 9, oM 133 14, oM 134 16, oS 135 (.idxS 2 (.t 133) (.t 134)), oS 136 (.load (some 2) (.t 135)), oS 137 (.call 15 [(.t 132), (.t 136)]), oS 138 (.bin .neq (.cells [(.int .i64), (.int .i64)]) (.t 131) (.t 137))], [128, 129, 130, 131, 132, 133, 134, 135, 136, 137], 0, true, [(3, 9)]⟩
def r4_32 : Reg := ⟨[oS 4 (.mv (.c (.bool false)))], [], 0, false, []⟩
def r4_33 : Reg := ⟨[oM 126 16, oS 127 (.bin .add (.int .i64) (.t 126) (.c (.int .i64 1))), oM 16 127], [126, 127], 0, false, []⟩
def l4_34 : SC := (.seq (.seq (.seq (.reg r4_30) (.cond (.t 125) .skip (.seq (.kill [0, 4, 6, 7, 8, 16, 17, 18, 19, 20, 23, 34, 47, 58, 69, 92, 102, 111, 121, 125, 138, 174]) (.exit 4)))) (.seq (.block 5 (.seq (.reg r4_31) (.cond (.t 138) (.seq (.reg r4_32) (.seq (.kill [0, 1, 5, 6, 7, 8, 9, 10, 11, 12, 13, 14, 15, 16, 17, 18, 19, 20, 23, 34, 47, 58, 69, 92, 102, 111, 121, 125, 138, 174]) .ret)) .skip))) (.reg r4_33))) (.seq (.kill [0, 4, 6, 7, 8, 17, 18, 19, 20, 23, 34, 47, 58, 69, 92, 102, 111, 121, 125, 138, 174]) .tidy))
def r4_35 : Reg := ⟨[oM 139 10, oM 140 14, oS 141 (.len .slice (.t 140)), oS 142 (.bin .add (.int .i64) (.t 139) (.t 141)), oM 10 142], [139, 140, 141, 142], 0, false, []⟩
def r4_36 : Reg := ⟨[oM 144 15, oS 145 (.call 16 [(.t 144)]), oM 143 145, oS 146 (.extract (.t 143) 0), oS 147 (.extract (.t 143) 1), oM 17 146, oM 18 147], [144, 145, 143, 146, 147], 0, true, []⟩
def r4_37 : Reg := ⟨[oS 148 (.load (some 9) (.t 11)), oM 149 17, oS 150 (.call 18 [(.t 149)]), oS 151 (.callP 17 [(.t 148), (.t 150)]), ⟨none, (.store 9 (.t 11) (.t 151)), none, 0⟩], [148, 149, 150, 151], 0, true, [(0, 2)]⟩
def r4_38 : Reg := ⟨[oS 152 (.load (some 9) (.t 12)), oM 153 18, oS 154 (.call 18 [(.t 153)]), oS 155 (.callP 17 [(.t 152), (.t 154)]), ⟨none, (.store 9 (.t 12) (.t 155)), none, 0⟩], [152, 153, 154, 155], 0, true, [(0, 2)]⟩
def r4_39 : Reg := ⟨[oM 157 5, oS 158 (.call 19 [(.t 157)]), oM 156 158, oS 159 (.extract (.t 156) 0), oS 160 (.extract (.t 156) 1), oS 19 (.alloc (.ints .i64 [0, 0, 0, 0, 0, 0, 0, 0, 0])), ⟨(some 20), (.alloc (.ints .i64 [0, 0, 0, 0, 0, 0, 0, 0, 0])), none, 1⟩, ⟨none, (.store 9 (.t 19) (.t 159)), none, 2⟩, ⟨none, (.store 9 (.t 20) (.t 160)), none, 2⟩], [157, 158, 156, 159, 160], 2, true, []⟩
def r4_40 : Reg := ⟨[oM 161 5, oS 162 (.call 20 [(.t 161)]), oM 163 10, oS 164 (.bin .neq (.int .i64) (.t 162) (.t 163)), oM 165 164, oG 166 (.load (some 9) (.t 19)) 165 false, oG 167 (.load (some 9) (.t 11)) 165 false, oG 168 (.bin .neq (.cells [(.int .i64), (.int .i64), (.int .i64), (.int .i64), (.int .i64), (.int .i64), (.int .i64), (.int .i64), (.int .i64)]) (.t 166) (.t 167)) 165 false, oS 169 (.pick (.t 165) (.c (.bool true)) (.t 168)), oM 170 169, oG 171 (.load (some 9) (.t 20)) 170 false, oG 172 (.load (some 9) (.t 12)) 170 false, oG 173 (.bin .neq (.cells [(.int .i64), (.int .i64), (.int .i64), (.int .i64), (.int .i64), (.int .i64), (.int .i64), (.int .i64), (.int .i64)]) (.t 171) (.t 172)) 170 false, oS 174 (.pick (.t 170) (.c (.bool true)) (.t 173))], [161, 162, 163, 164, 165, 166, 167, 168, 169, 170, 171, 172, 173], 0, true, []⟩
def r4_41 : Reg := ⟨[oS 4 (.mv (.c (.bool false)))], [], 0, false, []⟩
def r4_42 : Reg := ⟨[oM 103 13, oS 104 (.bin .add (.int .i64) (.t 103) (.c (.int .i64 1))), oM 13 104], [103, 104], 0, false, []⟩
def l4_43 : SC := (.seq (.seq (.seq (.reg r4_22) (.cond (.t 102) .skip (.seq (.kill [0, 1, 4, 5, 6, 7, 8, 9, 10, 11, 12, 13, 14, 15, 16, 17, 18, 19, 20, 23, 34, 47, 58, 69, 92, 102, 111, 121, 125, 138, 174]) (.exit 2)))) (.seq (.block 3 (.seq (.reg r4_23) (.seq (.seq (.reg r4_24) (.cond (.t 111) (.reg r4_25) .skip)) (.seq (.reg r4_26) (.seq (.seq (.reg r4_27) (.cond (.t 121) (.seq (.reg r4_28) (.seq (.kill [0, 1, 5, 6, 7, 8, 9, 10, 11, 12, 13, 14, 15, 16, 17, 18, 19, 20, 23, 34, 47, 58, 69, 92, 102, 111, 121, 125, 138, 174]) .ret)) .skip)) (.seq (.seq (.reg r4_29) (.block 4 (.seq (.kill [0, 4, 6, 7, 8, 17, 18, 19, 20, 23, 34, 47, 58, 69, 92, 102, 111, 121, 125, 138, 174]) (.loop l4_34)))) (.seq (.reg r4_35) (.seq (.reg r4_36) (.seq (.reg r4_37) (.seq (.reg r4_38) (.seq (.reg r4_39) (.seq (.reg r4_40) (.cond (.t 174) (.seq (.reg r4_41) (.seq (.kill [0, 1, 5, 6, 7, 8, 9, 10, 11, 12, 13, 14, 15, 16, 17, 18, 19, 20, 23, 34, 47, 58, 69, 92, 102, 111, 121, 125, 138, 174]) .ret)) .skip))))))))))))) (.reg r4_42))) (.seq (.kill [0, 4, 6, 7, 8, 14, 15, 16, 17, 18, 19, 20, 23, 34, 47, 58, 69, 92, 102, 111, 121, 125, 138, 174]) .tidy))
def r4_44 : Reg := ⟨[oS 175 (.callP 6 []), oM 4 175], [175], 0, false, []⟩
def sf4 : SFn := { np := 2, vars := [0, 1, 4, 5, 6, 7, 8, 9, 10, 11, 12, 13, 14, 15, 16, 17, 18, 19, 20, 23, 34, 47, 58, 69, 92, 102, 111, 121, 125, 138, 174], body := (.seq (.reg r4_0) (.seq (.seq (.reg r4_1) (.cond (.t 23) (.reg r4_2) .skip)) (.seq (.reg r4_3) (.seq (.reg r4_4) (.seq (.seq (.reg r4_5) (.block 0 (.seq (.kill [4, 9, 10, 11, 12, 13, 14, 15, 16, 17, 18, 19, 20, 23, 34, 47, 58, 69, 92, 102, 111, 121, 125, 138, 174]) (.loop l4_11)))) (.seq (.seq (.reg r4_12) (.cond (.t 58) (.seq (.reg r4_13) (.seq (.kill [0, 1, 5, 6, 7, 8, 9, 10, 11, 12, 13, 14, 15, 16, 17, 18, 19, 20, 23, 34, 47, 58, 69, 92, 102, 111, 121, 125, 138, 174]) .ret)) .skip)) (.seq (.seq (.reg r4_14) (.cond (.t 69) (.seq (.reg r4_15) (.seq (.kill [0, 1, 5, 6, 7, 8, 9, 10, 11, 12, 13, 14, 15, 16, 17, 18, 19, 20, 23, 34, 47, 58, 69, 92, 102, 111, 121, 125, 138, 174]) .ret)) .skip)) (.seq (.seq (.reg r4_16) (.cond (.t 92) (.seq (.reg r4_17) (.seq (.kill [0, 1, 5, 6, 7, 8, 9, 10, 11, 12, 13, 14, 15, 16, 17, 18, 19, 20, 23, 34, 47, 58, 69, 92, 102, 111, 121, 125, 138, 174]) .ret)) .skip)) (.seq (.reg r4_18) (.seq (.reg r4_19) (.seq (.reg r4_20) (.seq (.seq (.reg r4_21) (.block 2 (.seq (.kill [0, 4, 6, 7, 8, 14, 15, 16, 17, 18, 19, 20, 23, 34, 47, 58, 69, 92, 102, 111, 121, 125, 138, 174]) (.loop l4_43)))) (.seq (.reg r4_44) (.seq (.kill [0, 1, 5, 6, 7, 8, 9, 10, 11, 12, 13, 14, 15, 16, 17, 18, 19, 20, 23, 34, 47, 58, 69, 92, 102, 111, 121, 125, 138, 174]) .ret)))))))))))))), res := [(.tmp 4)] }
def r6_0 : Reg := ⟨[oS 0 (.mv (.c (.bool false)))], [], 0, false, []⟩
def r6_1 : Reg := ⟨[oS 5 (.build (.ints .i64 [0, 0, 0, 0, 0, 0, 0, 0, 0, 0]) [(0, 1, (.c (.int .i64 2))), (9, 1, (.c (.int .i64 128)))]), oS 6 (.bslice 10 1 (.ints .i64 [0, 0, 0, 0, 0, 0, 0, 0, 0, 0]) [(0, 10, (.t 5))]), ⟨(some 7), (.call 9 [(.t 6)]), none, 1⟩, ⟨(some 4), (.mv (.t 7)), none, 1⟩, ⟨(some 8), (.extract (.t 4) 0), none, 1⟩, ⟨(some 9), (.extract (.t 4) 1), none, 1⟩, ⟨(some 1), (.mv (.t 8)), none, 1⟩, ⟨(some 2), (.mv (.t 9)), none, 1⟩], [5, 6, 7, 4, 8, 9], 1, true, []⟩
def r6_2 : Reg := ⟨[oM 10 1, oS 11 (.build (.ints .i64 [0, 0]) [(0, 1, (.c (.int .i64 9))), (1, 1, (.c (.int .i64 (-9))))]), oS 12 (.bslice 2 1 (.ints .i64 [0, 0]) [(0, 2, (.t 11))]), ⟨(some 13), (.call 14 [(.t 10), (.t 12)]), none, 1⟩, ⟨(some 3), (.mv (.t 13)), none, 1⟩], [10, 11, 12, 13], 1, true, []⟩
def r6_3 : Reg := ⟨[oM 14 2, oS 15 (.bin .eql (.int .i64) (.t 14) (.c (.int .i64 0))), oM 16 15, oG 17 (.mv (.t 3)) 16 true, oG 18 (.len .slice (.t 17)) 16 true, oG 19 (.bin .eql (.int .i64) (.t 18) (.c (.int .i64 1))) 16 true, oS 20 (.pick (.t 16) (.t 19) (.c (.bool false))), oM 21 20, oG 22 (.mv (.t 3)) 21 true, oG 23 (.idxS 2 (.t 22) (.c (.int .i64 0))) 21 true, oG 24 (.load (some 2) (.t 23)) 21 true, oG 25 (.build (.ints .i64 [0, 0]) [(0, 1, (.c (.int .i64 5))), (1, 1, (.c (.int .i64 (-4))))]) 21 true, oG 26 (.bin .eql (.cells [(.int .i64), (.int .i64)]) (.t 24) (.t 25)) 21 true, oS 27 (.pick (.t 21) (.t 26) (.c (.bool false))), oM 0 27], [14, 15, 16, 17, 18, 19, 20, 21, 22, 23, 24, 25, 26, 27], 0, false, []⟩
def sf6 : SFn := { np := 0, vars := [0, 1, 2, 3], body := (.seq (.reg r6_0) (.seq (.reg r6_1) (.seq (.reg r6_2) (.seq (.reg r6_3) (.seq (.kill [1, 2, 3]) .ret))))), res := [(.tmp 0)] }
def r8_0 : Reg := ⟨[oS 2 (.mv (.c (.int .i64 0)))], [], 0, false, []⟩
def r8_1 : Reg := ⟨[oM 3 0, oS 4 (.bin .gtr (.int .i64) (.t 3) (.c (.int .i64 32767)))], [3], 0, false, []⟩
def r8_2 : Reg := ⟨[oS 2 (.mv (.c (.int .i64 32767)))], [], 0, false, []⟩
def r8_3 : Reg := ⟨[oM 5 0, oS 6 (.bin .lss (.int .i64) (.t 5) (.c (.int .i64 (-32768))))], [5], 0, false, []⟩
def r8_4 : Reg := ⟨[oS 2 (.mv (.c (.int .i64 (-32768))))], [], 0, false, []⟩
def r8_5 : Reg := ⟨[oM 7 0, oM 2 7], [7], 0, false, []⟩
def sf8 : SFn := { np := 1, vars := [0, 2, 4, 6], body := (.seq (.reg r8_0) (.seq (.seq (.reg r8_1) (.cond (.t 4) (.seq (.reg r8_2) (.seq (.kill [0, 4, 6]) .ret)) .skip)) (.seq (.seq (.reg r8_3) (.cond (.t 6) (.seq (.reg r8_4) (.seq (.kill [0, 4, 6]) .ret)) .skip)) (.seq (.reg r8_5) (.seq (.kill [0, 4, 6]) .ret))))), res := [(.tmp 2)] }
def r9_0 : Reg := ⟨[oS 2 (.mv (.c .nilp)), oS 3 (.mv (.c (.int .i64 0)))], [], 0, false, []⟩
def r9_1 : Reg := ⟨[oM 9 0, oS 10 (.len .slice (.t 9)), oS 11 (.bin .gtr (.int .i64) (.t 10) (.c (.int .i64 16)))], [9, 10], 0, false, []⟩
def r9_2 : Reg := ⟨[oS 2 (.mv (.c .nilp)), oS 3 (.mv (.c (.int .i64 6)))], [], 0, false, []⟩
def r9_3 : Reg := ⟨[oS 12 (.build (.agg [.nils, (.int .i64 0), (.int .i64 0), (.int .i64 0), (.int .i64 0), (.int .i64 0), (.int .i64 0), (.int .i64 0), (.int .i64 0), (.int .i64 0), (.int .i64 0), (.int .i64 0), (.int .i64 0), (.int .i64 0), (.int .i64 0), (.int .i64 0), (.int .i64 0), (.int .i64 0), (.int .i64 0), (.int .i64 0)]) []), oS 13 (.box (.t 12)), ⟨(some 4), (.mv (.t 13)), none, 1⟩], [12, 13], 1, true, []⟩
def r9_4 : Reg := ⟨[oM 14 0, oS 15 (.len .slice (.t 14)), oS 16 (.mv (.c (.int .i64 0)))], [], 0, false, []⟩
def r9_5 : Reg := ⟨[oS 17 (.bin .lss (.int .i64) (.t 16) (.t 15))], [], 0, false, []⟩
def r9_6 : Reg := ⟨[oS 18 (.idxS 10 (.t 14) (.t 16)), oS 19 (.load (some 10) (.t 18)), oS 6 (.alloc (.ints .i64 [0, 0, 0, 0, 0, 0, 0, 0, 0, 0])), ⟨none, (.store 10 (.t 6) (.t 19)), none, 1⟩], [18, 19], 1, true, []⟩
def r9_7 : Reg := ⟨[oS 20 (.load (some 10) (.t 6)), oS 21 (.callP 10 [(.t 20)]), oS 22 (.un .not (.t 21))], [20, 21], 0, false, []⟩
def r9_8 : Reg := ⟨[oS 2 (.mv (.c .nilp)), oS 3 (.mv (.c (.int .i64 1)))], [], 0, false, []⟩
def r9_9 : Reg := ⟨[oS 23 (.load (some 10) (.t 6)), oS 24 (.build (.agg [(.int .i64 0), (.int .i64 0), (.int .i64 0), (.int .i64 0), (.int .i64 0), (.int .i64 0), (.int .i64 0), (.int .i64 0), (.int .i64 0), (.int .i64 0), .nilp, .nilp, .nilp, .nilp]) [(0, 10, (.t 23))]), oS 7 (.alloc (.agg [(.int .i64 0), (.int .i64 0), (.int .i64 0), (.int .i64 0), (.int .i64 0), (.int .i64 0), (.int .i64 0), (.int .i64 0), (.int .i64 0), (.int .i64 0), .nilp, .nilp, .nilp, .nilp])), ⟨none, (.store 14 (.t 7) (.t 24)), none, 1⟩], [23, 24], 1, true, []⟩
def r9_10 : Reg := ⟨[oS 25 (.mv (.c (.int .i64 0)))], [], 0, false, []⟩
def r9_11 : Reg := ⟨[oS 26 (.bin .lss (.int .i64) (.t 25) (.c (.int .i64 2)))], [], 0, false, []⟩
def r9_12 : Reg := ⟨[oM 27 25, oM 8 27], [27], 0, false, []⟩
def r9_13 : Reg := ⟨[oM 29 8, oS 30 (.fieldAddr 1 (.t 6)), oS 31 (.load (some 5) (.t 30)), oS 32 (.call 22 [(.t 31)]), oM 28 32, oS 33 (.extract (.t 28) 0), oS 34 (.extract (.t 28) 1), oS 35 (.fieldAddr 10 (.t 7)), oS 36 (.idxA 2 1 (.t 35) (.t 29)), ⟨none, (.store 1 (.t 36) (.t 33)), none, 0⟩], [29, 30, 31, 32, 28, 33, 34, 35, 36], 0, true, []⟩
def r9_14 : Reg := ⟨[oM 38 8, oS 39 (.fieldAddr 6 (.t 6)), oS 40 (.load (some 3) (.t 39)), oS 41 (.call 23 [(.t 40)]), oM 37 41, oS 42 (.extract (.t 37) 0), oS 43 (.extract (.t 37) 1), oS 44 (.fieldAddr 12 (.t 7)), oS 45 (.idxA 2 1 (.t 44) (.t 38)), ⟨none, (.store 1 (.t 45) (.t 42)), none, 0⟩], [38, 39, 40, 41, 37, 42, 43, 44, 45], 0, true, []⟩
def r9_15 : Reg := ⟨[oS 46 (.bin .add (.int .i64) (.t 25) (.c (.int .i64 1))), oM 25 46], [46], 0, false, []⟩
def l9_16 : SC := (.seq (.seq (.reg r9_11) (.seq (.cond (.t 26) .skip (.seq (.kill [0, 2, 3, 6, 8, 11, 17, 22, 25, 26]) (.exit 2))) (.seq (.block 3 (.seq (.reg r9_12) (.seq (.reg r9_13) (.reg r9_14)))) (.reg r9_15)))) (.seq (.kill [0, 2, 3, 8, 11, 17, 22, 26]) .tidy))
def r9_17 : Reg := ⟨[oM 47 4, oM 48 4, oS 49 (.nilck (.t 48)), oS 50 (.fieldAddr 0 (.t 49)), oS 51 (.load none (.t 50)), oS 52 (.loadT (some 14) (.t 7)), oS 53 (.bslice 14 1 (.agg [(.int .i64 0), (.int .i64 0), (.int .i64 0), (.int .i64 0), (.int .i64 0), (.int .i64 0), (.int .i64 0), (.int .i64 0), (.int .i64 0), (.int .i64 0), .nilp, .nilp, .nilp, .nilp]) [(0, 14, (.t 52))]), ⟨(some 54), (.appT 14 112 (.t 51) (.t 53)), none, 1⟩, ⟨(some 55), (.nilck (.t 47)), none, 2⟩, ⟨(some 56), (.fieldAddr 0 (.t 55)), none, 2⟩, ⟨none, (.store 1 (.t 56) (.t 54)), none, 2⟩], [47, 48, 49, 50, 51, 52, 53, 54, 55, 56], 2, true, [(4, 6)]⟩
def r9_18 : Reg := ⟨[oS 57 (.bin .add (.int .i64) (.t 16) (.c (.int .i64 1))), oM 16 57], [57], 0, false, []⟩
def l9_19 : SC := (.seq (.seq (.reg r9_5) (.seq (.cond (.t 17) .skip (.seq (.kill [0, 2, 3, 6, 7, 8, 11, 14, 15, 16, 17, 22, 25, 26]) (.exit 0))) (.seq (.block 1 (.seq (.reg r9_6) (.seq (.seq (.reg r9_7) (.cond (.t 22) (.seq (.reg r9_8) (.seq (.kill [0, 4, 6, 7, 8, 11, 14, 15, 16, 17, 22, 25, 26]) .ret)) .skip)) (.seq (.reg r9_9) (.seq (.seq (.reg r9_10) (.block 2 (.seq (.kill [0, 2, 3, 8, 11, 17, 22, 26]) (.loop l9_16)))) (.reg r9_17)))))) (.reg r9_18)))) (.seq (.kill [0, 2, 3, 6, 7, 8, 11, 17, 22, 25, 26]) .tidy))
def r9_20 : Reg := ⟨[oM 58 4, oM 2 58, oS 3 (.mv (.c (.int .i64 0)))], [58], 0, false, []⟩
def sf9 : SFn := { np := 1, vars := [0, 2, 3, 4, 6, 7, 8, 11, 14, 15, 16, 17, 22, 25, 26], body := (.seq (.reg r9_0) (.seq (.seq (.reg r9_1) (.cond (.t 11) (.seq (.reg r9_2) (.seq (.kill [0, 4, 6, 7, 8, 11, 14, 15, 16, 17, 22, 25, 26]) .ret)) .skip)) (.seq (.reg r9_3) (.seq (.seq (.reg r9_4) (.block 0 (.seq (.kill [0, 2, 3, 6, 7, 8, 11, 17, 22, 25, 26]) (.loop l9_19)))) (.seq (.reg r9_20) (.seq (.kill [0, 4, 6, 7, 8, 11, 14, 15, 16, 17, 22, 25, 26]) .ret)))))), res := [(.tmp 2), (.tmp 3)] }
def r10_0 : Reg := ⟨[oS 1 (.box (.t 0)), ⟨(some 2), (.mv (.c (.bool false))), none, 1⟩], [], 1, true, []⟩
def r10_1 : Reg := ⟨[oS 3 (.fieldAddr 0 (.t 1)), oS 4 (.load none (.t 3))], [3], 0, false, []⟩
def r10_2 : Reg := ⟨[oS 6 (.bin .eql (.int .i64) (.t 4) (.c (.int .i64 0))), oM 5 6], [6], 0, false, []⟩
def r10_3 : Reg := ⟨[oS 7 (.fieldAddr 1 (.t 1)), oS 8 (.load (some 5) (.t 7)), oS 9 (.callP 24 [(.t 8)]), oM 2 9], [7, 8, 9], 0, false, []⟩
def r10_4 : Reg := ⟨[oS 11 (.bin .eql (.int .i64) (.t 4) (.c (.int .i64 1))), oM 10 11], [11], 0, false, []⟩
def r10_5 : Reg := ⟨[oS 12 (.fieldAddr 6 (.t 1)), oS 13 (.load (some 3) (.t 12)), oS 14 (.callP 25 [(.t 13)]), oM 2 14], [12, 13, 14], 0, false, []⟩
def r10_6 : Reg := ⟨[oS 16 (.bin .eql (.int .i64) (.t 4) (.c (.int .i64 2))), oM 15 16], [16], 0, false, []⟩
def r10_7 : Reg := ⟨[oS 17 (.fieldAddr 9 (.t 1)), oS 18 (.load none (.t 17)), oS 19 (.bin .geq (.int .i64) (.t 18) (.c (.int .i64 0))), oM 20 19, oG 21 (.fieldAddr 9 (.t 1)) 20 true, oG 22 (.load none (.t 21)) 20 true, oG 23 (.bin .leq (.int .i64) (.t 22) (.c (.int .i64 1024))) 20 true, oS 24 (.pick (.t 20) (.t 23) (.c (.bool false))), oM 2 24], [17, 18, 19, 20, 21, 22, 23, 24], 0, false, []⟩
def r10_8 : Reg := ⟨[oS 25 (.fieldAddr 0 (.t 1)), oS 26 (.load none (.t 25)), oS 27 (.bin .eql (.int .i64) (.t 26) (.c (.int .i64 3))), oM 28 27, oG 29 (.fieldAddr 0 (.t 1)) 28 false, oG 30 (.load none (.t 29)) 28 false, oG 31 (.bin .eql (.int .i64) (.t 30) (.c (.int .i64 4))) 28 false, oS 32 (.pick (.t 28) (.c (.bool true)) (.t 31)), oM 2 32], [25, 26, 27, 28, 29, 30, 31, 32], 0, false, []⟩
def sf10 : SFn := { np := 1, vars := [0, 1, 2, 4, 5, 10, 15], body := (.seq (.reg r10_0) (.seq (.seq (.reg r10_1) (.block 0 (.seq (.reg r10_2) (.cond (.t 5) (.seq (.reg r10_3) (.seq (.kill [0, 1, 4, 5, 10, 15]) .ret)) (.seq (.reg r10_4) (.cond (.t 10) (.seq (.reg r10_5) (.seq (.kill [0, 1, 4, 5, 10, 15]) .ret)) (.seq (.reg r10_6) (.cond (.t 15) (.seq (.reg r10_7) (.seq (.kill [0, 1, 4, 5, 10, 15]) .ret)) .skip)))))))) (.seq (.reg r10_8) (.seq (.kill [0, 1, 4, 5, 10, 15]) .ret)))), res := [(.tmp 2)] }
def r11_0 : Reg := ⟨[oS 1 (.box (.t 0)), ⟨(some 2), (.mv (.c (.bool false))), none, 1⟩], [], 1, true, []⟩
def r11_1 : Reg := ⟨[oS 3 (.fieldAddr 0 (.t 1)), oS 4 (.load none (.t 3))], [3], 0, false, []⟩
def r11_2 : Reg := ⟨[oS 14 (.bin .eql (.int .i64) (.t 4) (.c (.int .i64 0))), oM 13 14], [14], 0, false, []⟩
def r11_3 : Reg := ⟨[oS 15 (.fieldAddr 1 (.t 1)), oS 16 (.load (some 5) (.t 15)), oS 17 (.callP 24 [(.t 16)]), oM 2 17], [15, 16, 17], 0, false, []⟩
def r11_4 : Reg := ⟨[oS 19 (.bin .eql (.int .i64) (.t 4) (.c (.int .i64 1))), oM 18 19], [19], 0, false, []⟩
def r11_5 : Reg := ⟨[oS 20 (.fieldAddr 6 (.t 1)), oS 21 (.load (some 3) (.t 20)), oS 22 (.callP 25 [(.t 21)]), oM 2 22], [20, 21, 22], 0, false, []⟩
def r11_6 : Reg := ⟨[oS 24 (.bin .eql (.int .i64) (.t 4) (.c (.int .i64 2))), oM 23 24], [24], 0, false, []⟩
def r11_7 : Reg := ⟨[oS 25 (.fieldAddr 9 (.t 1)), oS 26 (.load none (.t 25)), oS 27 (.bin .geq (.int .i64) (.t 26) (.c (.int .i64 0))), oM 28 27, oG 29 (.fieldAddr 9 (.t 1)) 28 true, oG 30 (.load none (.t 29)) 28 true, oG 31 (.bin .leq (.int .i64) (.t 30) (.c (.int .i64 1024))) 28 true, oS 32 (.pick (.t 28) (.t 31) (.c (.bool false))), oM 2 32], [25, 26, 27, 28, 29, 30, 31, 32], 0, false, []⟩
def r11_8 : Reg := ⟨[oS 5 (.fieldAddr 0 (.t 1)), oS 6 (.load none (.t 5)), oS 7 (.bin .eql (.int .i64) (.t 6) (.c (.int .i64 3))), oM 8 7, oG 9 (.fieldAddr 0 (.t 1)) 8 false, oG 10 (.load none (.t 9)) 8 false, oG 11 (.bin .eql (.int .i64) (.t 10) (.c (.int .i64 4))) 8 false, oS 12 (.pick (.t 8) (.c (.bool true)) (.t 11)), oM 2 12], [5, 6, 7, 8, 9, 10, 11, 12], 0, false, []⟩
def sf11 : SFn := { np := 1, vars := [0, 1, 2, 4, 13, 18, 23], body := (.seq (.reg r11_0) (.seq (.reg r11_1) (.block 0 (.seq (.reg r11_2) (.cond (.t 13) (.seq (.reg r11_3) (.seq (.kill [0, 1, 4, 13, 18, 23]) .ret)) (.seq (.reg r11_4) (.cond (.t 18) (.seq (.reg r11_5) (.seq (.kill [0, 1, 4, 13, 18, 23]) .ret)) (.seq (.reg r11_6) (.cond (.t 23) (.seq (.reg r11_7) (.seq (.kill [0, 1, 4, 13, 18, 23]) .ret)) (.seq (.reg r11_8) (.seq (.kill [0, 1, 4, 13, 18, 23]) .ret))))))))))), res := [(.tmp 2)] }
def r12_0 : Reg := ⟨[oS 2 (.mv (.c .nils))], [], 0, false, []⟩
def r12_1 : Reg := ⟨[oM 6 0, oS 7 (.bin .eql .ptr (.t 6) (.c .nilp))], [6], 0, false, []⟩
def r12_2 : Reg := ⟨[oS 2 (.mv (.c .nils))], [], 0, false, []⟩
def r12_3 : Reg := ⟨[oS 3 (.mv (.c .nils))], [], 0, false, []⟩
def r12_4 : Reg := ⟨[oM 8 0, oS 9 (.nilck (.t 8)), oS 10 (.fieldAddr 0 (.t 9)), oS 11 (.load none (.t 10)), oS 12 (.len .slice (.t 11)), oS 13 (.mv (.c (.int .i64 0)))], [8, 9, 10], 0, false, []⟩
def r12_5 : Reg := ⟨[oS 14 (.bin .lss (.int .i64) (.t 13) (.t 12))], [], 0, false, []⟩
def r12_6 : Reg := ⟨[oS 15 (.idxS 14 (.t 11) (.t 13)), oS 16 (.loadT (some 14) (.t 15)), oS 5 (.alloc (.agg [(.int .i64 0), (.int .i64 0), (.int .i64 0), (.int .i64 0), (.int .i64 0), (.int .i64 0), (.int .i64 0), (.int .i64 0), (.int .i64 0), (.int .i64 0), .nilp, .nilp, .nilp, .nilp])), ⟨none, (.store 14 (.t 5) (.t 16)), none, 1⟩], [15, 16], 1, true, []⟩
def r12_7 : Reg := ⟨[oM 17 3, oS 18 (.fieldAddr 0 (.t 5)), oS 19 (.load (some 10) (.t 18)), oS 20 (.bslice 10 1 (.ints .i64 [0, 0, 0, 0, 0, 0, 0, 0, 0, 0]) [(0, 10, (.t 19))]), ⟨(some 21), (.app 10 80 (.t 17) (.t 20)), none, 1⟩, ⟨(some 3), (.mv (.t 21)), none, 2⟩], [17, 18, 19, 20, 21], 2, true, []⟩
def r12_8 : Reg := ⟨[oS 22 (.bin .add (.int .i64) (.t 13) (.c (.int .i64 1))), oM 13 22], [22], 0, false, []⟩
def l12_9 : SC := (.seq (.seq (.reg r12_5) (.seq (.cond (.t 14) .skip (.seq (.kill [0, 2, 5, 7, 11, 12, 13, 14]) (.exit 0))) (.seq (.block 1 (.seq (.reg r12_6) (.reg r12_7))) (.reg r12_8)))) (.seq (.kill [0, 2, 5, 7, 14]) .tidy))
def r12_10 : Reg := ⟨[oM 23 3, oM 2 23], [23], 0, false, []⟩
def sf12 : SFn := { np := 1, vars := [0, 2, 3, 5, 7, 11, 12, 13, 14], body := (.seq (.reg r12_0) (.seq (.seq (.reg r12_1) (.cond (.t 7) (.seq (.reg r12_2) (.seq (.kill [0, 3, 5, 7, 11, 12, 13, 14]) .ret)) .skip)) (.seq (.reg r12_3) (.seq (.seq (.reg r12_4) (.block 0 (.seq (.kill [0, 2, 5, 7, 14]) (.loop l12_9)))) (.seq (.reg r12_10) (.seq (.kill [0, 3, 5, 7, 11, 12, 13, 14]) .ret)))))), res := [(.tmp 2)] }
def r13_0 : Reg := ⟨[oS 2 (.mv (.c .nils))], [], 0, false, []⟩
def r13_1 : Reg := ⟨[oS 3 (.mv (.c .nils))], [], 0, false, []⟩
def r13_2 : Reg := ⟨[oS 4 (.mv (.c (.int .i64 0)))], [], 0, false, []⟩
def r13_3 : Reg := ⟨[oM 7 4, oM 8 0, oS 9 (.len .slice (.t 8)), oS 10 (.bin .lss (.int .i64) (.t 7) (.t 9))], [7, 8, 9], 0, false, []⟩
def r13_4 : Reg := ⟨[oM 13 0, oM 14 4, oS 15 (.idxS 10 (.t 13) (.t 14)), oS 16 (.load (some 10) (.t 15)), oS 17 (.build (.agg [(.int .i64 0), (.int .i64 0), (.int .i64 0), (.int .i64 0), (.int .i64 0), (.int .i64 0), (.int .i64 0), (.int .i64 0), (.int .i64 0), (.int .i64 0), .nils, .nils]) [(0, 10, (.t 16))]), oS 18 (.box (.t 17)), ⟨(some 5), (.mv (.t 18)), none, 1⟩], [13, 14, 15, 16, 17, 18], 1, true, []⟩
def r13_5 : Reg := ⟨[oS 6 (.mv (.c (.int .i64 0)))], [], 0, false, []⟩
def r13_6 : Reg := ⟨[oM 19 6, oS 20 (.bin .lss (.int .i64) (.t 19) (.c (.int .i64 2)))], [19], 0, false, []⟩
def r13_7 : Reg := ⟨[oM 23 5, oM 24 5, oS 25 (.nilck (.t 24)), oS 26 (.fieldAddr 10 (.t 25)), oS 27 (.load none (.t 26)), oM 28 0, oM 29 4, oS 30 (.idxS 10 (.t 28) (.t 29)), oS 31 (.fieldAddr 1 (.t 30)), oS 32 (.load (some 5) (.t 31)), oS 33 (.build (.ints .i64 [0, 0, 0, 0, 0, 0, 0, 0, 0]) [(0, 5, (.t 32))]), oS 34 (.box (.t 33)), ⟨(some 35), (.bslice 1 1 .nilp [(0, 1, (.t 34))]), none, 1⟩, ⟨(some 36), (.app 1 8 (.t 27) (.t 35)), none, 2⟩, ⟨(some 37), (.nilck (.t 23)), none, 3⟩, ⟨(some 38), (.fieldAddr 10 (.t 37)), none, 3⟩, ⟨none, (.store 1 (.t 38) (.t 36)), none, 3⟩], [23, 24, 25, 26, 27, 28, 29, 30, 31, 32, 33, 34, 35, 36, 37, 38], 3, true, [(4, 11), (4, 12)]⟩
def r13_8 : Reg := ⟨[oM 39 5, oM 40 5, oS 41 (.nilck (.t 40)), oS 42 (.fieldAddr 11 (.t 41)), oS 43 (.load none (.t 42)), oM 44 0, oM 45 4, oS 46 (.idxS 10 (.t 44) (.t 45)), oS 47 (.fieldAddr 6 (.t 46)), oS 48 (.load (some 3) (.t 47)), oS 49 (.build (.agg [(.int .i64 0), (.int .i64 0), (.int .i64 0), .nils]) [(0, 3, (.t 48))]), oS 50 (.box (.t 49)), ⟨(some 51), (.bslice 1 1 .nilp [(0, 1, (.t 50))]), none, 1⟩, ⟨(some 52), (.app 1 8 (.t 43) (.t 51)), none, 2⟩, ⟨(some 53), (.nilck (.t 39)), none, 3⟩, ⟨(some 54), (.fieldAddr 11 (.t 53)), none, 3⟩, ⟨none, (.store 1 (.t 54) (.t 52)), none, 3⟩], [39, 40, 41, 42, 43, 44, 45, 46, 47, 48, 49, 50, 51, 52, 53, 54], 3, true, [(4, 11), (4, 12)]⟩
def r13_9 : Reg := ⟨[oM 21 6, oS 22 (.bin .add (.int .i64) (.t 21) (.c (.int .i64 1))), oM 6 22], [21, 22], 0, false, []⟩
def l13_10 : SC := (.seq (.seq (.seq (.reg r13_6) (.cond (.t 20) .skip (.seq (.kill [2, 6, 10, 20]) (.exit 2)))) (.seq (.block 3 (.seq (.reg r13_7) (.reg r13_8))) (.reg r13_9))) (.seq (.kill [2, 10, 20]) .tidy))
def r13_11 : Reg := ⟨[oM 55 3, oM 56 5, oS 57 (.bslice 1 1 .nilp [(0, 1, (.t 56))]), ⟨(some 58), (.appT 0 8 (.t 55) (.t 57)), none, 1⟩, ⟨(some 3), (.mv (.t 58)), none, 2⟩], [55, 56, 57, 58], 2, true, []⟩
def r13_12 : Reg := ⟨[oM 11 4, oS 12 (.bin .add (.int .i64) (.t 11) (.c (.int .i64 1))), oM 4 12], [11, 12], 0, false, []⟩
def l13_13 : SC := (.seq (.seq (.seq (.reg r13_3) (.cond (.t 10) .skip (.seq (.kill [0, 2, 4, 5, 6, 10, 20]) (.exit 0)))) (.seq (.block 1 (.seq (.reg r13_4) (.seq (.seq (.reg r13_5) (.block 2 (.seq (.kill [2, 10, 20]) (.loop l13_10)))) (.reg r13_11)))) (.reg r13_12))) (.seq (.kill [2, 5, 6, 10, 20]) .tidy))
def r13_14 : Reg := ⟨[oM 59 3, oM 2 59], [59], 0, false, []⟩
def sf13 : SFn := { np := 1, vars := [0, 2, 3, 4, 5, 6, 10, 20], body := (.seq (.reg r13_0) (.seq (.reg r13_1) (.seq (.seq (.reg r13_2) (.block 0 (.seq (.kill [2, 5, 6, 10, 20]) (.loop l13_13)))) (.seq (.reg r13_14) (.seq (.kill [0, 3, 4, 5, 6, 10, 20]) .ret))))), res := [(.tmp 2)] }
def r14_0 : Reg := ⟨[oS 4 (.mv (.c .nils))], [], 0, false, []⟩
def r14_1 : Reg := ⟨[oM 11 0, oS 12 (.bin .eql .ptr (.t 11) (.c .nilp))], [11], 0, false, []⟩
def r14_2 : Reg := ⟨[oS 4 (.mv (.c .nils))], [], 0, false, []⟩
def r14_3 : Reg := ⟨[oS 5 (.mv (.c .nils))], [], 0, false, []⟩
def r14_4 : Reg := ⟨[oM 13 1, oS 14 (.len .slice (.t 13)), oS 15 (.mv (.c (.int .i64 0)))], [], 0, false, []⟩
def r14_5 : Reg := ⟨[oS 16 (.bin .lss (.int .i64) (.t 15) (.t 14))], [], 0, false, []⟩
def r14_6 : Reg := ⟨[oS 17 (.idxS 2 (.t 13) (.t 15)), oS 18 (.load (some 2) (.t 17)), oS 7 (.alloc (.ints .i64 [0, 0])), ⟨none, (.store 2 (.t 7) (.t 18)), none, 1⟩], [17, 18], 1, true, []⟩
def r14_7 : Reg := ⟨[oS 19 (.load (some 2) (.t 7)), oS 20 (.callP 26 [(.t 19)]), ⟨none, (.store 2 (.t 7) (.t 20)), none, 0⟩], [19, 20], 0, false, []⟩
def r14_8 : Reg := ⟨[oM 21 0, oS 22 (.nilck (.t 21)), oS 23 (.fieldAddr 0 (.t 22)), oS 24 (.load none (.t 23)), oS 25 (.len .slice (.t 24)), oS 26 (.mv (.c (.int .i64 0)))], [21, 22, 23, 24], 0, false, []⟩
def r14_9 : Reg := ⟨[oS 27 (.bin .lss (.int .i64) (.t 26) (.t 25))], [], 0, false, []⟩
def r14_10 : Reg := ⟨[oM 28 26, oM 8 28], [28], 0, false, []⟩
def r14_11 : Reg := ⟨[oM 29 0, oS 30 (.nilck (.t 29)), oS 31 (.fieldAddr 0 (.t 30)), oS 32 (.load none (.t 31)), oM 33 8, oS 34 (.idxS 14 (.t 32) (.t 33)), oS 35 (.load (some 2) (.t 7)), oS 36 (.callT 27 14 [(.t 34), (.t 35)]), ⟨none, (.store 2 (.t 7) (.t 36)), none, 0⟩], [29, 30, 31, 32, 33, 34, 35, 36], 0, false, []⟩
def r14_12 : Reg := ⟨[oS 37 (.bin .add (.int .i64) (.t 26) (.c (.int .i64 1))), oM 26 37], [37], 0, false, []⟩
def l14_13 : SC := (.seq (.seq (.reg r14_9) (.seq (.cond (.t 27) .skip (.seq (.kill [4, 8, 9, 10, 12, 16, 25, 26, 27]) (.exit 2))) (.seq (.block 3 (.seq (.reg r14_10) (.reg r14_11))) (.reg r14_12)))) (.kill [4, 8, 9, 10, 12, 16, 27]))
def r14_14 : Reg := ⟨[oM 38 5, oS 39 (.load (some 2) (.t 7)), oS 40 (.bslice 2 1 (.ints .i64 [0, 0]) [(0, 2, (.t 39))]), ⟨(some 41), (.app 2 16 (.t 38) (.t 40)), none, 1⟩, ⟨(some 5), (.mv (.t 41)), none, 2⟩], [38, 39, 40, 41], 2, true, []⟩
def r14_15 : Reg := ⟨[oS 42 (.bin .add (.int .i64) (.t 15) (.c (.int .i64 1))), oM 15 42], [42], 0, false, []⟩
def l14_16 : SC := (.seq (.seq (.reg r14_5) (.seq (.cond (.t 16) .skip (.seq (.kill [4, 7, 8, 9, 10, 12, 13, 14, 15, 16, 25, 26, 27]) (.exit 0))) (.seq (.block 1 (.seq (.reg r14_6) (.seq (.reg r14_7) (.seq (.seq (.reg r14_8) (.block 2 (.seq (.kill [4, 8, 9, 10, 12, 16, 27]) (.loop l14_13)))) (.reg r14_14))))) (.reg r14_15)))) (.seq (.kill [4, 7, 8, 9, 10, 12, 16, 25, 26, 27]) .tidy))
def r14_17 : Reg := ⟨[oM 44 5, oS 45 (.call 16 [(.t 44)]), oM 43 45, oS 46 (.extract (.t 43) 0), oS 47 (.extract (.t 43) 1), oM 9 46, oM 10 47], [44, 45, 43, 46, 47], 0, true, []⟩
def r14_18 : Reg := ⟨[oM 48 0, oM 49 0, oM 50 0, oS 51 (.nilck (.t 50)), oS 52 (.fieldAddr 1 (.t 51)), oS 53 (.idxA 2 9 (.t 52) (.c (.int .i64 0))), oS 54 (.load (some 9) (.t 53)), oM 55 9, oS 56 (.call 18 [(.t 55)]), oS 57 (.callP 17 [(.t 54), (.t 56)]), oM 58 0, oS 59 (.nilck (.t 58)), oS 60 (.fieldAddr 1 (.t 59)), oS 61 (.idxA 2 9 (.t 60) (.c (.int .i64 1))), oS 62 (.load (some 9) (.t 61)), oM 63 10, oS 64 (.call 18 [(.t 63)]), oS 65 (.callP 17 [(.t 62), (.t 64)]), oS 66 (.nilck (.t 48)), oS 67 (.fieldAddr 1 (.t 66)), oS 68 (.idxA 2 9 (.t 67) (.c (.int .i64 0))), ⟨none, (.store 9 (.t 68) (.t 57)), none, 0⟩, oS 69 (.nilck (.t 49)), oS 70 (.fieldAddr 1 (.t 69)), oS 71 (.idxA 2 9 (.t 70) (.c (.int .i64 1))), ⟨none, (.store 9 (.t 71) (.t 65)), none, 0⟩], [48, 49, 50, 51, 52, 53, 54, 55, 56, 57, 58, 59, 60, 61, 62, 63, 64, 65, 66, 67, 68, 69, 70, 71], 0, true, [(6, 8), (8, 14), (14, 16)]⟩
def r14_19 : Reg := ⟨[oM 72 0, oS 73 (.nilck (.t 72)), oS 74 (.fieldAddr 19 (.t 73)), oS 75 (.load none (.t 74)), oM 76 1, oS 77 (.len .slice (.t 76)), oS 78 (.bin .add (.int .i64) (.t 75) (.t 77)), oS 79 (.nilck (.t 72)), oS 80 (.fieldAddr 19 (.t 79)), ⟨none, (.store 1 (.t 80) (.t 78)), none, 0⟩], [72, 73, 74, 75, 76, 77, 78, 79, 80], 0, false, []⟩
def r14_20 : Reg := ⟨[oM 81 5, oM 4 81], [81], 0, false, []⟩
def sf14 : SFn := { np := 2, vars := [0, 1, 4, 5, 7, 8, 9, 10, 12, 13, 14, 15, 16, 25, 26, 27], body := (.seq (.reg r14_0) (.seq (.seq (.reg r14_1) (.cond (.t 12) (.seq (.reg r14_2) (.seq (.kill [0, 1, 5, 7, 8, 9, 10, 12, 13, 14, 15, 16, 25, 26, 27]) .ret)) .skip)) (.seq (.reg r14_3) (.seq (.seq (.reg r14_4) (.block 0 (.seq (.kill [4, 7, 8, 9, 10, 12, 16, 25, 26, 27]) (.loop l14_16)))) (.seq (.reg r14_17) (.seq (.reg r14_18) (.seq (.reg r14_19) (.seq (.reg r14_20) (.seq (.kill [0, 1, 5, 7, 8, 9, 10, 12, 13, 14, 15, 16, 25, 26, 27]) .ret))))))))), res := [(.tmp 4)] }
def r15_0 : Reg := ⟨[oS 3 (.box (.t 1)), ⟨(some 4), (.alloc (.ints .i64 [0, 0])), none, 1⟩], [], 2, true, []⟩
def r15_1 : Reg := ⟨[oS 6 (.fieldAddr 0 (.t 3)), oS 7 (.load none (.t 6)), oS 8 (.callP 8 [(.t 7)]), oS 9 (.fieldAddr 1 (.t 3)), oS 10 (.load none (.t 9)), oS 11 (.callP 8 [(.t 10)]), oS 12 (.build (.ints .i64 [0, 0]) [(0, 1, (.t 8)), (1, 1, (.t 11))]), ⟨none, (.store 2 (.t 3) (.t 12)), none, 0⟩], [6, 7, 8, 9, 10, 11, 12], 0, false, []⟩
def r15_2 : Reg := ⟨[oS 5 (.mv (.c (.int .i64 0)))], [], 0, false, []⟩
def r15_3 : Reg := ⟨[oM 13 5, oM 14 0, oS 15 (.len .slice (.t 14)), oS 16 (.bin .lss (.int .i64) (.t 13) (.t 15))], [13, 14, 15], 0, false, []⟩
def r15_4 : Reg := ⟨[oM 19 0, oM 20 5, oS 21 (.idxS 1 (.t 19) (.t 20)), oS 22 (.loadT none (.t 21)), oS 23 (.load (some 2) (.t 3)), oS 24 (.callT 28 0 [(.t 22), (.t 23)]), ⟨none, (.store 2 (.t 3) (.t 24)), none, 0⟩], [19, 20, 21, 22, 23, 24], 0, false, []⟩
def r15_5 : Reg := ⟨[oM 17 5, oS 18 (.bin .add (.int .i64) (.t 17) (.c (.int .i64 1))), oM 5 18], [17, 18], 0, false, []⟩
def l15_6 : SC := (.seq (.seq (.seq (.reg r15_3) (.cond (.t 16) .skip (.seq (.kill [0, 1, 5, 16]) (.exit 0)))) (.seq (.block 1 (.reg r15_4)) (.reg r15_5))) (.kill [1, 16]))
def r15_7 : Reg := ⟨[oS 25 (.load (some 2) (.t 3)), ⟨none, (.store 2 (.t 4) (.t 25)), none, 0⟩], [25], 0, false, []⟩
def sf15 : SFn := { np := 2, vars := [0, 1, 3, 4, 5, 16], body := (.seq (.reg r15_0) (.seq (.reg r15_1) (.seq (.seq (.reg r15_2) (.block 0 (.seq (.kill [1, 16]) (.loop l15_6)))) (.seq (.reg r15_7) (.seq (.kill [0, 1, 3, 5, 16]) .ret))))), res := [(.cell 4 (some 2))] }
def r16_0 : Reg := ⟨[oS 2 (.mv (.c .nils)), oS 3 (.mv (.c .nils))], [], 0, false, []⟩
def r16_1 : Reg := ⟨[oS 4 (.mv (.c .nils)), oS 5 (.mv (.c .nils))], [], 0, false, []⟩
def r16_2 : Reg := ⟨[oM 8 0, oS 9 (.len .slice (.t 8)), oS 10 (.mv (.c (.int .i64 0)))], [], 0, false, []⟩
def r16_3 : Reg := ⟨[oS 11 (.bin .lss (.int .i64) (.t 10) (.t 9))], [], 0, false, []⟩
def r16_4 : Reg := ⟨[oS 12 (.idxS 2 (.t 8) (.t 10)), oS 13 (.load (some 2) (.t 12)), oS 7 (.alloc (.ints .i64 [0, 0])), ⟨none, (.store 2 (.t 7) (.t 13)), none, 1⟩], [12, 13], 1, true, []⟩
def r16_5 : Reg := ⟨[oM 14 4, oS 15 (.fieldAddr 0 (.t 7)), oS 16 (.load none (.t 15)), oS 17 (.bslice 1 1 (.int .i64 0) [(0, 1, (.t 16))]), ⟨(some 18), (.app 1 8 (.t 14) (.t 17)), none, 1⟩, ⟨(some 19), (.mv (.t 5)), none, 2⟩, ⟨(some 20), (.fieldAddr 1 (.t 7)), none, 2⟩, ⟨(some 21), (.load none (.t 20)), none, 2⟩, ⟨(some 22), (.bslice 1 1 (.int .i64 0) [(0, 1, (.t 21))]), none, 2⟩, ⟨(some 23), (.app 1 8 (.t 19) (.t 22)), none, 3⟩, ⟨(some 4), (.mv (.t 18)), none, 4⟩, ⟨(some 5), (.mv (.t 23)), none, 4⟩], [14, 15, 16, 17, 18, 19, 20, 21, 22, 23], 4, true, [(3, 7), (4, 7), (2, 8), (3, 8), (4, 8)]⟩
def r16_6 : Reg := ⟨[oS 24 (.bin .add (.int .i64) (.t 10) (.c (.int .i64 1))), oM 10 24], [24], 0, false, []⟩
def l16_7 : SC := (.seq (.seq (.reg r16_3) (.seq (.cond (.t 11) .skip (.seq (.kill [0, 2, 3, 7, 8, 9, 10, 11]) (.exit 0))) (.seq (.block 1 (.seq (.reg r16_4) (.reg r16_5))) (.reg r16_6)))) (.seq (.kill [0, 2, 3, 7, 11]) .tidy))
def r16_8 : Reg := ⟨[oM 25 4, oM 26 5, oM 2 25, oM 3 26], [25, 26], 0, false, []⟩
def sf16 : SFn := { np := 1, vars := [0, 2, 3, 4, 5, 7, 8, 9, 10, 11], body := (.seq (.reg r16_0) (.seq (.reg r16_1) (.seq (.seq (.reg r16_2) (.block 0 (.seq (.kill [0, 2, 3, 7, 11]) (.loop l16_7)))) (.seq (.reg r16_8) (.seq (.kill [0, 4, 5, 7, 8, 9, 10, 11]) .ret))))), res := [(.tmp 2), (.tmp 3)] }
def r17_0 : Reg := ⟨[oS 2 (.box (.t 0)), ⟨(some 3), (.box (.t 1)), none, 1⟩, ⟨(some 4), (.alloc (.ints .i64 [0, 0, 0, 0, 0, 0, 0, 0, 0])), none, 2⟩], [], 3, true, []⟩
def r17_1 : Reg := ⟨[oS 6 (.fieldAddr 0 (.t 2)), oS 7 (.load none (.t 6)), oS 8 (.bin .eql (.int .i64) (.t 7) (.c (.int .i64 0))), oM 5 8], [6, 7, 8], 0, false, []⟩
def r17_2 : Reg := ⟨[oS 9 (.load (some 9) (.t 3)), ⟨none, (.store 9 (.t 4) (.t 9)), none, 0⟩], [9], 0, false, []⟩
def r17_3 : Reg := ⟨[oS 11 (.fieldAddr 0 (.t 3)), oS 12 (.load none (.t 11)), oS 13 (.bin .eql (.int .i64) (.t 12) (.c (.int .i64 0))), oM 10 13], [11, 12, 13], 0, false, []⟩
def r17_4 : Reg := ⟨[oS 14 (.load (some 9) (.t 2)), ⟨none, (.store 9 (.t 4) (.t 14)), none, 0⟩], [14], 0, false, []⟩
def r17_5 : Reg := ⟨[oS 15 (.fieldAddr 0 (.t 2)), oS 16 (.load none (.t 15)), oS 17 (.fieldAddr 0 (.t 3)), oS 18 (.load none (.t 17)), oS 19 (.bin .add (.int .i64) (.t 16) (.t 18)), oS 20 (.fieldAddr 1 (.t 2)), oS 21 (.load none (.t 20)), oS 22 (.fieldAddr 1 (.t 3)), oS 23 (.load none (.t 22)), oS 24 (.mx true [(.t 21), (.t 23)]), oS 25 (.fieldAddr 2 (.t 2)), oS 26 (.load none (.t 25)), oS 27 (.fieldAddr 2 (.t 3)), oS 28 (.load none (.t 27)), oS 29 (.mx false [(.t 26), (.t 28)]), oS 30 (.fieldAddr 3 (.t 2)), oS 31 (.load none (.t 30)), oS 32 (.fieldAddr 3 (.t 3)), oS 33 (.load none (.t 32)), oS 34 (.mx true [(.t 31), (.t 33)]), oS 35 (.fieldAddr 4 (.t 2)), oS 36 (.load none (.t 35)), oS 37 (.fieldAddr 4 (.t 3)), oS 38 (.load none (.t 37)), oS 39 (.bin .add (.int .i64) (.t 36) (.t 38)), oS 40 (.fieldAddr 5 (.t 2)), oS 41 (.load none (.t 40)), oS 42 (.fieldAddr 5 (.t 3)), oS 43 (.load none (.t 42)), oS 44 (.bin .add (.int .i64) (.t 41) (.t 43)), oS 45 (.fieldAddr 6 (.t 2)), oS 46 (.load none (.t 45)), oS 47 (.fieldAddr 6 (.t 3)), oS 48 (.load none (.t 47)), oS 49 (.bin .add (.int .i64) (.t 46) (.t 48)), oS 50 (.fieldAddr 7 (.t 2)), oS 51 (.load none (.t 50)), oS 52 (.fieldAddr 7 (.t 3)), oS 53 (.load none (.t 52)), oS 54 (.bin .add (.int .i64) (.t 51) (.t 53)), oS 55 (.fieldAddr 8 (.t 2)), oS 56 (.load none (.t 55)), oS 57 (.fieldAddr 8 (.t 3)), oS 58 (.load none (.t 57)), oS 59 (.mx true [(.t 56), (.t 58)]), oS 60 (.build (.ints .i64 [0, 0, 0, 0, 0, 0, 0, 0, 0]) [(0, 1, (.t 19)), (1, 1, (.t 24)), (2, 1, (.t 29)), (3, 1, (.t 34)), (4, 1, (.t 39)), (5, 1, (.t 44)), (6, 1, (.t 49)), (7, 1, (.t 54)), (8, 1, (.t 59))]), ⟨none, (.store 9 (.t 4) (.t 60)), none, 0⟩], [15, 16, 17, 18, 19, 20, 21, 22, 23, 24, 25, 26, 27, 28, 29, 30, 31, 32, 33, 34, 35, 36, 37, 38, 39, 40, 41, 42, 43, 44, 45, 46, 47, 48, 49, 50, 51, 52, 53, 54, 55, 56, 57, 58, 59, 60], 0, false, []⟩
def sf17 : SFn := { np := 2, vars := [0, 1, 2, 3, 4, 5, 10], body := (.seq (.reg r17_0) (.seq (.block 0 (.seq (.reg r17_1) (.cond (.t 5) (.seq (.reg r17_2) (.seq (.kill [0, 1, 2, 3, 5, 10]) .ret)) (.seq (.reg r17_3) (.cond (.t 10) (.seq (.reg r17_4) (.seq (.kill [0, 1, 2, 3, 5, 10]) .ret)) .skip))))) (.seq (.reg r17_5) (.seq (.kill [0, 1, 2, 3, 5, 10]) .ret)))), res := [(.cell 4 (some 9))] }
def r18_0 : Reg := ⟨[oS 2 (.alloc (.ints .i64 [0, 0, 0, 0, 0, 0, 0, 0, 0]))], [], 1, true, []⟩
def r18_1 : Reg := ⟨[oS 3 (.alloc (.ints .i64 [0, 0, 0, 0, 0, 0, 0, 0, 0]))], [], 1, true, []⟩
def r18_2 : Reg := ⟨[oS 4 (.mv (.c (.int .i64 0))), oS 5 (.mv (.c (.int .i64 0)))], [], 0, false, []⟩
def r18_3 : Reg := ⟨[oM 9 0, oS 10 (.len .slice (.t 9)), oS 11 (.mv (.c (.int .i64 0)))], [], 0, false, []⟩
def r18_4 : Reg := ⟨[oS 12 (.bin .lss (.int .i64) (.t 11) (.t 10))], [], 0, false, []⟩
def r18_5 : Reg := ⟨[oM 13 11, oS 14 (.idxS 1 (.t 9) (.t 11)), oS 15 (.load none (.t 14)), oM 6 13, oM 7 15], [13, 14, 15], 0, false, []⟩
def r18_6 : Reg := ⟨[oS 16 (.fieldAddr 0 (.t 3)), oS 17 (.load none (.t 16)), oS 18 (.bin .add (.int .i64) (.t 17) (.c (.int .i64 1))), oS 19 (.fieldAddr 0 (.t 3)), ⟨none, (.store 1 (.t 19) (.t 18)), none, 0⟩], [16, 17, 18, 19], 0, false, []⟩
def r18_7 : Reg := ⟨[oS 20 (.fieldAddr 1 (.t 3)), oS 21 (.load none (.t 20)), oM 22 7, oS 23 (.callP 29 [(.t 22)]), oS 24 (.mx true [(.t 21), (.t 23)]), oS 25 (.fieldAddr 1 (.t 3)), ⟨none, (.store 1 (.t 25) (.t 24)), none, 0⟩], [20, 21, 22, 23, 24, 25], 0, false, []⟩
def r18_8 : Reg := ⟨[oM 26 6, oS 27 (.bin .eql (.int .i64) (.t 26) (.c (.int .i64 0)))], [26], 0, false, []⟩
def r18_9 : Reg := ⟨[oM 28 7, oM 29 7, oS 30 (.fieldAddr 2 (.t 3)), ⟨none, (.store 1 (.t 30) (.t 28)), none, 0⟩, oS 31 (.fieldAddr 3 (.t 3)), ⟨none, (.store 1 (.t 31) (.t 29)), none, 0⟩], [28, 29, 30, 31], 0, false, []⟩
def r18_10 : Reg := ⟨[oS 32 (.fieldAddr 2 (.t 3)), oS 33 (.load none (.t 32)), oM 34 7, oS 35 (.mx false [(.t 33), (.t 34)]), oS 36 (.fieldAddr 3 (.t 3)), oS 37 (.load none (.t 36)), oM 38 7, oS 39 (.mx true [(.t 37), (.t 38)]), oS 40 (.fieldAddr 2 (.t 3)), ⟨none, (.store 1 (.t 40) (.t 35)), none, 0⟩, oS 41 (.fieldAddr 3 (.t 3)), ⟨none, (.store 1 (.t 41) (.t 39)), none, 0⟩], [32, 33, 34, 35, 36, 37, 38, 39, 40, 41], 0, false, []⟩
def r18_11 : Reg := ⟨[oS 42 (.fieldAddr 4 (.t 3)), oS 43 (.load none (.t 42)), oM 44 7, oS 45 (.bin .add (.int .i64) (.t 43) (.t 44)), oS 46 (.fieldAddr 4 (.t 3)), ⟨none, (.store 1 (.t 46) (.t 45)), none, 0⟩], [42, 43, 44, 45, 46], 0, false, []⟩
def r18_12 : Reg := ⟨[oS 47 (.fieldAddr 5 (.t 3)), oS 48 (.load none (.t 47)), oM 49 7, oM 50 7, oS 51 (.bin .mul (.int .i64) (.t 49) (.t 50)), oS 52 (.bin .add (.int .i64) (.t 48) (.t 51)), oS 53 (.fieldAddr 5 (.t 3)), ⟨none, (.store 1 (.t 53) (.t 52)), none, 0⟩], [47, 48, 49, 50, 51, 52, 53], 0, false, []⟩
def r18_13 : Reg := ⟨[oM 54 7, oS 55 (.bin .leq (.int .i64) (.t 54) (.c (.int .i64 (-32768)))), oM 56 55, oG 57 (.mv (.t 7)) 56 false, oG 58 (.bin .geq (.int .i64) (.t 57) (.c (.int .i64 32767))) 56 false, oS 59 (.pick (.t 56) (.c (.bool true)) (.t 58))], [54, 55, 56, 57, 58], 0, false, []⟩
def r18_14 : Reg := ⟨[oS 60 (.fieldAddr 7 (.t 3)), oS 61 (.load none (.t 60)), oS 62 (.bin .add (.int .i64) (.t 61) (.c (.int .i64 1))), oS 63 (.fieldAddr 7 (.t 3)), ⟨none, (.store 1 (.t 63) (.t 62)), none, 0⟩], [60, 61, 62, 63], 0, false, []⟩
def r18_15 : Reg := ⟨[oM 64 7, oS 65 (.callP 30 [(.t 64)]), oM 8 65], [64, 65], 0, false, []⟩
def r18_16 : Reg := ⟨[oM 66 8, oS 67 (.bin .neq (.int .i64) (.t 66) (.c (.int .i64 0))), oM 68 67, oG 69 (.mv (.t 4)) 68 true, oG 70 (.bin .neq (.int .i64) (.t 69) (.c (.int .i64 0))) 68 true, oS 71 (.pick (.t 68) (.t 70) (.c (.bool false))), oM 72 71, oG 73 (.mv (.t 8)) 72 true, oG 74 (.mv (.t 4)) 72 true, oG 75 (.bin .neq (.int .i64) (.t 73) (.t 74)) 72 true, oS 76 (.pick (.t 72) (.t 75) (.c (.bool false)))], [66, 67, 68, 69, 70, 71, 72, 73, 74, 75], 0, false, []⟩
def r18_17 : Reg := ⟨[oS 77 (.fieldAddr 6 (.t 3)), oS 78 (.load none (.t 77)), oS 79 (.bin .add (.int .i64) (.t 78) (.c (.int .i64 1))), oS 80 (.fieldAddr 6 (.t 3)), ⟨none, (.store 1 (.t 80) (.t 79)), none, 0⟩], [77, 78, 79, 80], 0, false, []⟩
def r18_18 : Reg := ⟨[oM 81 8, oS 82 (.bin .neq (.int .i64) (.t 81) (.c (.int .i64 0)))], [81], 0, false, []⟩
def r18_19 : Reg := ⟨[oM 83 8, oM 4 83, oS 5 (.mv (.c (.int .i64 0)))], [83], 0, false, []⟩
def r18_20 : Reg := ⟨[oM 84 5, oS 85 (.bin .add (.int .i64) (.t 84) (.c (.int .i64 1))), oM 5 85], [84, 85], 0, false, []⟩
def r18_21 : Reg := ⟨[oS 86 (.fieldAddr 8 (.t 3)), oS 87 (.load none (.t 86)), oM 88 5, oS 89 (.mx true [(.t 87), (.t 88)]), oS 90 (.fieldAddr 8 (.t 3)), ⟨none, (.store 1 (.t 90) (.t 89)), none, 0⟩], [86, 87, 88, 89, 90], 0, false, []⟩
def r18_22 : Reg := ⟨[oS 91 (.bin .add (.int .i64) (.t 11) (.c (.int .i64 1))), oM 11 91], [91], 0, false, []⟩
def l18_23 : SC := (.seq (.seq (.reg r18_4) (.seq (.cond (.t 12) .skip (.seq (.kill [0, 4, 5, 6, 7, 8, 9, 10, 11, 12, 27, 59, 76, 82]) (.exit 0))) (.seq (.block 1 (.seq (.reg r18_5) (.seq (.reg r18_6) (.seq (.reg r18_7) (.seq (.seq (.reg r18_8) (.cond (.t 27) (.reg r18_9) .skip)) (.seq (.reg r18_10) (.seq (.reg r18_11) (.seq (.reg r18_12) (.seq (.seq (.reg r18_13) (.cond (.t 59) (.reg r18_14) .skip)) (.seq (.reg r18_15) (.seq (.seq (.reg r18_16) (.cond (.t 76) (.reg r18_17) .skip)) (.seq (.seq (.reg r18_18) (.cond (.t 82) (.reg r18_19) (.reg r18_20))) (.reg r18_21))))))))))))) (.reg r18_22)))) (.kill [0, 6, 7, 8, 12, 27, 59, 76, 82]))
def r18_24 : Reg := ⟨[oS 92 (.load (some 9) (.t 3)), ⟨none, (.store 9 (.t 2) (.t 92)), none, 0⟩], [92], 0, false, []⟩
def sf18 : SFn := { np := 1, vars := [0, 2, 3, 4, 5, 6, 7, 8, 9, 10, 11, 12, 27, 59, 76, 82], body := (.seq (.reg r18_0) (.seq (.reg r18_1) (.seq (.reg r18_2) (.seq (.seq (.reg r18_3) (.block 0 (.seq (.kill [0, 6, 7, 8, 12, 27, 59, 76, 82]) (.loop l18_23)))) (.seq (.reg r18_24) (.seq (.kill [0, 3, 4, 5, 6, 7, 8, 9, 10, 11, 12, 27, 59, 76, 82]) .ret)))))), res := [(.cell 2 (some 9))] }
def r19_0 : Reg := ⟨[oS 2 (.alloc (.ints .i64 [0, 0, 0, 0, 0, 0, 0, 0, 0])), ⟨(some 3), (.alloc (.ints .i64 [0, 0, 0, 0, 0, 0, 0, 0, 0])), none, 1⟩], [], 2, true, []⟩
def r19_1 : Reg := ⟨[oM 4 0, oS 5 (.bin .eql .ptr (.t 4) (.c .nilp))], [4], 0, false, []⟩
def r19_2 : Reg := ⟨[oS 6 (.build (.ints .i64 [0, 0, 0, 0, 0, 0, 0, 0, 0]) []), oS 7 (.build (.ints .i64 [0, 0, 0, 0, 0, 0, 0, 0, 0]) []), ⟨none, (.store 9 (.t 2) (.t 6)), none, 0⟩, ⟨none, (.store 9 (.t 3) (.t 7)), none, 0⟩], [6, 7], 0, false, []⟩
def r19_3 : Reg := ⟨[oM 8 0, oS 9 (.nilck (.t 8)), oS 10 (.fieldAddr 1 (.t 9)), oS 11 (.idxA 2 9 (.t 10) (.c (.int .i64 0))), oS 12 (.load (some 9) (.t 11)), oM 13 0, oS 14 (.nilck (.t 13)), oS 15 (.fieldAddr 1 (.t 14)), oS 16 (.idxA 2 9 (.t 15) (.c (.int .i64 1))), oS 17 (.load (some 9) (.t 16)), ⟨none, (.store 9 (.t 2) (.t 12)), none, 0⟩, ⟨none, (.store 9 (.t 3) (.t 17)), none, 0⟩], [8, 9, 10, 11, 12, 13, 14, 15, 16, 17], 0, false, [(9, 10)]⟩
def sf19 : SFn := { np := 1, vars := [0, 2, 3, 5], body := (.seq (.reg r19_0) (.seq (.seq (.reg r19_1) (.cond (.t 5) (.seq (.reg r19_2) (.seq (.kill [0, 5]) .ret)) .skip)) (.seq (.reg r19_3) (.seq (.kill [0, 5]) .ret)))), res := [(.cell 2 (some 9)), (.cell 3 (some 9))] }
def r20_0 : Reg := ⟨[oS 2 (.mv (.c (.int .i64 0)))], [], 0, false, []⟩
def r20_1 : Reg := ⟨[oM 3 0, oS 4 (.bin .eql .ptr (.t 3) (.c .nilp))], [3], 0, false, []⟩
def r20_2 : Reg := ⟨[oS 2 (.mv (.c (.int .i64 0)))], [], 0, false, []⟩
def r20_3 : Reg := ⟨[oM 5 0, oS 6 (.nilck (.t 5)), oS 7 (.fieldAddr 19 (.t 6)), oS 8 (.load none (.t 7)), oM 2 8], [5, 6, 7, 8], 0, false, []⟩
def sf20 : SFn := { np := 1, vars := [0, 2, 4], body := (.seq (.reg r20_0) (.seq (.seq (.reg r20_1) (.cond (.t 4) (.seq (.reg r20_2) (.seq (.kill [0, 4]) .ret)) .skip)) (.seq (.reg r20_3) (.seq (.kill [0, 4]) .ret)))), res := [(.tmp 2)] }
def r22_0 : Reg := ⟨[oS 1 (.box (.t 0)), ⟨(some 2), (.mv (.c .nilp)), none, 1⟩, ⟨(some 3), (.mv (.c (.int .i64 0))), none, 1⟩], [], 1, true, []⟩
def r22_1 : Reg := ⟨[oS 4 (.load (some 5) (.t 1)), oS 5 (.callP 24 [(.t 4)]), oS 6 (.un .not (.t 5))], [4, 5], 0, false, []⟩
def r22_2 : Reg := ⟨[oS 2 (.mv (.c .nilp)), oS 3 (.mv (.c (.int .i64 1)))], [], 0, false, []⟩
def r22_3 : Reg := ⟨[oS 7 (.load (some 5) (.t 1)), oS 8 (.build (.ints .i64 [0, 0, 0, 0, 0, 0, 0, 0, 0]) [(0, 5, (.t 7))]), oS 9 (.box (.t 8)), ⟨(some 2), (.mv (.t 9)), none, 1⟩, ⟨(some 3), (.mv (.c (.int .i64 0))), none, 1⟩], [7, 8, 9], 1, true, []⟩
def sf22 : SFn := { np := 1, vars := [0, 1, 2, 3, 6], body := (.seq (.reg r22_0) (.seq (.seq (.reg r22_1) (.cond (.t 6) (.seq (.reg r22_2) (.seq (.kill [0, 1, 6]) .ret)) .skip)) (.seq (.reg r22_3) (.seq (.kill [0, 1, 6]) .ret)))), res := [(.tmp 2), (.tmp 3)] }
def r23_0 : Reg := ⟨[oS 1 (.box (.t 0)), ⟨(some 2), (.mv (.c .nilp)), none, 1⟩, ⟨(some 3), (.mv (.c (.int .i64 0))), none, 1⟩], [], 1, true, []⟩
def r23_1 : Reg := ⟨[oS 4 (.load (some 3) (.t 1)), oS 5 (.callP 25 [(.t 4)]), oS 6 (.un .not (.t 5))], [4, 5], 0, false, []⟩
def r23_2 : Reg := ⟨[oS 2 (.mv (.c .nilp)), oS 3 (.mv (.c (.int .i64 1)))], [], 0, false, []⟩
def r23_3 : Reg := ⟨[oS 7 (.load (some 3) (.t 1)), oS 8 (.fieldAddr 0 (.t 1)), oS 9 (.load none (.t 8)), oS 10 (.mkslice 1 8 (.int .i64 0) (.t 9) (.t 9)), ⟨(some 11), (.build (.agg [(.int .i64 0), (.int .i64 0), (.int .i64 0), .nils, (.int .i64 0)]) [(0, 3, (.t 7)), (3, 1, (.t 10))]), none, 1⟩, ⟨(some 12), (.box (.t 11)), none, 1⟩, ⟨(some 2), (.mv (.t 12)), none, 2⟩, ⟨(some 3), (.mv (.c (.int .i64 0))), none, 2⟩], [7, 8, 9, 10, 11, 12], 2, true, [(0, 3)]⟩
def sf23 : SFn := { np := 1, vars := [0, 1, 2, 3, 6], body := (.seq (.reg r23_0) (.seq (.seq (.reg r23_1) (.cond (.t 6) (.seq (.reg r23_2) (.seq (.kill [0, 1, 6]) .ret)) .skip)) (.seq (.reg r23_3) (.seq (.kill [0, 1, 6]) .ret)))), res := [(.tmp 2), (.tmp 3)] }
def r24_0 : Reg := ⟨[oS 1 (.box (.t 0)), ⟨(some 2), (.mv (.c (.bool false))), none, 1⟩], [], 1, true, []⟩
def r24_1 : Reg := ⟨[oS 5 (.fieldAddr 0 (.t 1)), oS 6 (.load none (.t 5)), oS 7 (.fieldAddr 1 (.t 1)), oS 8 (.load none (.t 7)), oS 9 (.fieldAddr 2 (.t 1)), oS 10 (.load none (.t 9)), oS 11 (.fieldAddr 3 (.t 1)), oS 12 (.load none (.t 11)), oS 13 (.fieldAddr 4 (.t 1)), oS 14 (.load none (.t 13)), oS 15 (.build (.ints .i64 [0, 0, 0, 0, 0]) [(0, 1, (.t 6)), (1, 1, (.t 8)), (2, 1, (.t 10)), (3, 1, (.t 12)), (4, 1, (.t 14))]), oS 16 (.mv (.c (.int .i64 0)))], [5, 6, 7, 8, 9, 10, 11, 12, 13, 14], 0, false, []⟩
def r24_2 : Reg := ⟨[oS 17 (.bin .lss (.int .i64) (.t 16) (.c (.int .i64 5)))], [], 0, false, []⟩
def r24_3 : Reg := ⟨[oS 18 (.idxV 5 1 false (.t 15) (.t 16)), oM 4 18], [18], 0, false, []⟩
def r24_4 : Reg := ⟨[oM 19 4, oS 20 (.bin .lss (.int .i64) (.t 19) (.c (.int .i64 (-32768)))), oM 21 20, oG 22 (.mv (.t 4)) 21 false, oG 23 (.bin .gtr (.int .i64) (.t 22) (.c (.int .i64 32768))) 21 false, oS 24 (.pick (.t 21) (.c (.bool true)) (.t 23))], [19, 20, 21, 22, 23], 0, false, []⟩
def r24_5 : Reg := ⟨[oS 2 (.mv (.c (.bool false)))], [], 0, false, []⟩
def r24_6 : Reg := ⟨[oS 25 (.bin .add (.int .i64) (.t 16) (.c (.int .i64 1))), oM 16 25], [25], 0, false, []⟩
def l24_7 : SC := (.seq (.seq (.reg r24_2) (.seq (.cond (.t 17) .skip (.seq (.kill [0, 1, 2, 4, 15, 16, 17, 24]) (.exit 0))) (.seq (.block 1 (.seq (.reg r24_3) (.seq (.reg r24_4) (.cond (.t 24) (.seq (.reg r24_5) (.seq (.kill [0, 1, 4, 15, 16, 17, 24]) .ret)) .skip)))) (.reg r24_6)))) (.kill [0, 1, 2, 4, 17, 24]))
def r24_8 : Reg := ⟨[oS 2 (.mv (.c (.bool true)))], [], 0, false, []⟩
def sf24 : SFn := { np := 1, vars := [0, 1, 2, 4, 15, 16, 17, 24], body := (.seq (.reg r24_0) (.seq (.seq (.reg r24_1) (.block 0 (.seq (.kill [0, 1, 2, 4, 17, 24]) (.loop l24_7)))) (.seq (.reg r24_8) (.seq (.kill [0, 1, 4, 15, 16, 17, 24]) .ret)))), res := [(.tmp 2)] }
def r25_0 : Reg := ⟨[oS 1 (.box (.t 0)), ⟨(some 2), (.mv (.c (.bool false))), none, 1⟩], [], 1, true, []⟩
def r25_1 : Reg := ⟨[oS 3 (.fieldAddr 0 (.t 1)), oS 4 (.load none (.t 3)), oS 5 (.bin .geq (.int .i64) (.t 4) (.c (.int .i64 1))), oM 6 5, oG 7 (.fieldAddr 0 (.t 1)) 6 true, oG 8 (.load none (.t 7)) 6 true, oG 9 (.bin .leq (.int .i64) (.t 8) (.c (.int .i64 4096))) 6 true, oS 10 (.pick (.t 6) (.t 9) (.c (.bool false))), oM 11 10, oG 12 (.fieldAddr 1 (.t 1)) 11 true, oG 13 (.load none (.t 12)) 11 true, oG 14 (.bin .geq (.int .i64) (.t 13) (.c (.int .i64 0))) 11 true, oS 15 (.pick (.t 11) (.t 14) (.c (.bool false))), oM 16 15, oG 17 (.fieldAddr 1 (.t 1)) 16 true, oG 18 (.load none (.t 17)) 16 true, oG 19 (.bin .lss (.int .i64) (.t 18) (.c (.int .i64 256))) 16 true, oS 20 (.pick (.t 16) (.t 19) (.c (.bool false))), oM 21 20, oG 22 (.fieldAddr 2 (.t 1)) 21 true, oG 23 (.load none (.t 22)) 21 true, oG 24 (.bin .geq (.int .i64) (.t 23) (.c (.int .i64 0))) 21 true, oS 25 (.pick (.t 21) (.t 24) (.c (.bool false))), oM 26 25, oG 27 (.fieldAddr 2 (.t 1)) 26 true, oG 28 (.load none (.t 27)) 26 true, oG 29 (.bin .leq (.int .i64) (.t 28) (.c (.int .i64 256))) 26 true, oS 30 (.pick (.t 26) (.t 29) (.c (.bool false))), oM 2 30], [3, 4, 5, 6, 7, 8, 9, 10, 11, 12, 13, 14, 15, 16, 17, 18, 19, 20, 21, 22, 23, 24, 25, 26, 27, 28, 29, 30], 0, false, []⟩
def sf25 : SFn := { np := 1, vars := [0, 1, 2], body := (.seq (.reg r25_0) (.seq (.reg r25_1) (.seq (.kill [0, 1]) .ret))), res := [(.tmp 2)] }
def r26_0 : Reg := ⟨[oS 1 (.box (.t 0)), ⟨(some 2), (.alloc (.ints .i64 [0, 0])), none, 1⟩], [], 2, true, []⟩
def r26_1 : Reg := ⟨[oS 3 (.fieldAddr 0 (.t 1)), oS 4 (.load none (.t 3)), oS 5 (.callP 31 [(.t 4)]), oS 6 (.fieldAddr 1 (.t 1)), oS 7 (.load none (.t 6)), oS 8 (.callP 31 [(.t 7)]), oS 9 (.build (.ints .i64 [0, 0]) [(0, 1, (.t 5)), (1, 1, (.t 8))]), ⟨none, (.store 2 (.t 2) (.t 9)), none, 0⟩], [3, 4, 5, 6, 7, 8, 9], 0, false, []⟩
def sf26 : SFn := { np := 1, vars := [0, 1, 2], body := (.seq (.reg r26_0) (.seq (.reg r26_1) (.seq (.kill [0, 1]) .ret))), res := [(.cell 2 (some 2))] }
def r27_0 : Reg := ⟨[oS 3 (.box (.t 1)), ⟨(some 4), (.alloc (.ints .i64 [0, 0])), none, 1⟩], [], 2, true, []⟩
def r27_1 : Reg := ⟨[oM 6 0, oS 7 (.nilck (.t 6)), oS 8 (.fieldAddr 0 (.t 7)), oS 9 (.fieldAddr 0 (.t 8)), oS 10 (.load none (.t 9))], [6, 7, 8, 9], 0, false, []⟩
def r27_2 : Reg := ⟨[oS 12 (.bin .eql (.int .i64) (.t 10) (.c (.int .i64 0))), oM 11 12], [12], 0, false, []⟩
def r27_3 : Reg := ⟨[oM 13 0, oS 14 (.nilck (.t 13)), oS 15 (.fieldAddr 10 (.t 14)), oS 16 (.idxA 2 1 (.t 15) (.c (.int .i64 0))), oS 17 (.load none (.t 16)), oS 18 (.fieldAddr 0 (.t 3)), oS 19 (.load none (.t 18)), oS 20 (.call 33 [(.t 17), (.t 19)]), oM 21 0, oS 22 (.nilck (.t 21)), oS 23 (.fieldAddr 10 (.t 22)), oS 24 (.idxA 2 1 (.t 23) (.c (.int .i64 1))), oS 25 (.load none (.t 24)), oS 26 (.fieldAddr 1 (.t 3)), oS 27 (.load none (.t 26)), oS 28 (.call 33 [(.t 25), (.t 27)]), oS 29 (.build (.ints .i64 [0, 0]) [(0, 1, (.t 20)), (1, 1, (.t 28))]), ⟨none, (.store 2 (.t 4) (.t 29)), none, 0⟩], [13, 14, 15, 16, 17, 18, 19, 20, 21, 22, 23, 24, 25, 26, 27, 28, 29], 0, true, [(7, 12), (7, 14)]⟩
def r27_4 : Reg := ⟨[oS 31 (.bin .eql (.int .i64) (.t 10) (.c (.int .i64 1))), oM 30 31], [31], 0, false, []⟩
def r27_5 : Reg := ⟨[oM 32 0, oS 33 (.nilck (.t 32)), oS 34 (.fieldAddr 12 (.t 33)), oS 35 (.idxA 2 1 (.t 34) (.c (.int .i64 0))), oS 36 (.load none (.t 35)), oS 37 (.fieldAddr 0 (.t 3)), oS 38 (.load none (.t 37)), oS 39 (.call 34 [(.t 36), (.t 38)]), oM 40 0, oS 41 (.nilck (.t 40)), oS 42 (.fieldAddr 12 (.t 41)), oS 43 (.idxA 2 1 (.t 42) (.c (.int .i64 1))), oS 44 (.load none (.t 43)), oS 45 (.fieldAddr 1 (.t 3)), oS 46 (.load none (.t 45)), oS 47 (.call 34 [(.t 44), (.t 46)]), oS 48 (.build (.ints .i64 [0, 0]) [(0, 1, (.t 39)), (1, 1, (.t 47))]), ⟨none, (.store 2 (.t 4) (.t 48)), none, 0⟩], [32, 33, 34, 35, 36, 37, 38, 39, 40, 41, 42, 43, 44, 45, 46, 47, 48], 0, true, [(7, 12), (7, 14)]⟩
def r27_6 : Reg := ⟨[oS 50 (.bin .eql (.int .i64) (.t 10) (.c (.int .i64 2))), oM 49 50], [50], 0, false, []⟩
def r27_7 : Reg := ⟨[oS 51 (.fieldAddr 0 (.t 3)), oS 52 (.load none (.t 51)), oM 53 0, oS 54 (.nilck (.t 53)), oS 55 (.fieldAddr 0 (.t 54)), oS 56 (.fieldAddr 9 (.t 55)), oS 57 (.load none (.t 56)), oS 58 (.callP 35 [(.t 52), (.t 57)]), oS 59 (.fieldAddr 1 (.t 3)), oS 60 (.load none (.t 59)), oM 61 0, oS 62 (.nilck (.t 61)), oS 63 (.fieldAddr 0 (.t 62)), oS 64 (.fieldAddr 9 (.t 63)), oS 65 (.load none (.t 64)), oS 66 (.callP 35 [(.t 60), (.t 65)]), oS 67 (.build (.ints .i64 [0, 0]) [(0, 1, (.t 58)), (1, 1, (.t 66))]), ⟨none, (.store 2 (.t 4) (.t 67)), none, 0⟩], [51, 52, 53, 54, 55, 56, 57, 58, 59, 60, 61, 62, 63, 64, 65, 66, 67], 0, false, []⟩
def r27_8 : Reg := ⟨[oS 69 (.bin .eql (.int .i64) (.t 10) (.c (.int .i64 3))), oM 68 69], [69], 0, false, []⟩
def r27_9 : Reg := ⟨[oS 70 (.fieldAddr 1 (.t 3)), oS 71 (.load none (.t 70)), oS 72 (.fieldAddr 0 (.t 3)), oS 73 (.load none (.t 72)), oS 74 (.build (.ints .i64 [0, 0]) [(0, 1, (.t 71)), (1, 1, (.t 73))]), ⟨none, (.store 2 (.t 4) (.t 74)), none, 0⟩], [70, 71, 72, 73, 74], 0, false, []⟩
def r27_10 : Reg := ⟨[oS 75 (.fieldAddr 0 (.t 3)), oS 76 (.load none (.t 75)), oS 77 (.fieldAddr 1 (.t 3)), oS 78 (.load none (.t 77)), oS 79 (.bin .add (.int .i64) (.t 76) (.t 78)), oS 80 (.callP 36 [(.t 79), (.c (.int .i64 2))]), oM 5 80], [75, 76, 77, 78, 79, 80], 0, false, []⟩
def r27_11 : Reg := ⟨[oM 81 5, oM 82 5, oS 83 (.build (.ints .i64 [0, 0]) [(0, 1, (.t 81)), (1, 1, (.t 82))]), ⟨none, (.store 2 (.t 4) (.t 83)), none, 0⟩], [81, 82, 83], 0, false, []⟩
def sf27 : SFn := { np := 2, vars := [0, 1, 3, 4, 5, 10, 11, 30, 49, 68], body := (.seq (.reg r27_0) (.seq (.seq (.reg r27_1) (.block 0 (.seq (.reg r27_2) (.cond (.t 11) (.seq (.reg r27_3) (.seq (.kill [0, 1, 3, 5, 10, 11, 30, 49, 68]) .ret)) (.seq (.reg r27_4) (.cond (.t 30) (.seq (.reg r27_5) (.seq (.kill [0, 1, 3, 5, 10, 11, 30, 49, 68]) .ret)) (.seq (.reg r27_6) (.cond (.t 49) (.seq (.reg r27_7) (.seq (.kill [0, 1, 3, 5, 10, 11, 30, 49, 68]) .ret)) (.seq (.reg r27_8) (.cond (.t 68) (.seq (.reg r27_9) (.seq (.kill [0, 1, 3, 5, 10, 11, 30, 49, 68]) .ret)) .skip)))))))))) (.seq (.reg r27_10) (.seq (.reg r27_11) (.seq (.kill [0, 1, 3, 5, 10, 11, 30, 49, 68]) .ret))))), res := [(.cell 4 (some 2))] }
def r28_0 : Reg := ⟨[oS 3 (.box (.t 1)), ⟨(some 4), (.alloc (.ints .i64 [0, 0])), none, 1⟩], [], 2, true, []⟩
def r28_1 : Reg := ⟨[oM 6 0, oS 7 (.nilck (.t 6)), oS 8 (.fieldAddr 0 (.t 7)), oS 9 (.fieldAddr 0 (.t 8)), oS 10 (.load none (.t 9))], [6, 7, 8, 9], 0, false, []⟩
def r28_2 : Reg := ⟨[oS 21 (.bin .eql (.int .i64) (.t 10) (.c (.int .i64 0))), oM 20 21], [21], 0, false, []⟩
def r28_3 : Reg := ⟨[oM 22 0, oS 23 (.nilck (.t 22)), oS 24 (.fieldAddr 10 (.t 23)), oS 25 (.load none (.t 24)), oS 26 (.idxS 1 (.t 25) (.c (.int .i64 0))), oS 27 (.load none (.t 26)), oS 28 (.fieldAddr 0 (.t 3)), oS 29 (.load none (.t 28)), oS 30 (.call 37 [(.t 27), (.t 29)]), oM 31 0, oS 32 (.nilck (.t 31)), oS 33 (.fieldAddr 10 (.t 32)), oS 34 (.load none (.t 33)), oS 35 (.idxS 1 (.t 34) (.c (.int .i64 1))), oS 36 (.load none (.t 35)), oS 37 (.fieldAddr 1 (.t 3)), oS 38 (.load none (.t 37)), oS 39 (.call 37 [(.t 36), (.t 38)]), oS 40 (.build (.ints .i64 [0, 0]) [(0, 1, (.t 30)), (1, 1, (.t 39))]), ⟨none, (.store 2 (.t 4) (.t 40)), none, 0⟩], [22, 23, 24, 25, 26, 27, 28, 29, 30, 31, 32, 33, 34, 35, 36, 37, 38, 39, 40], 0, true, [(8, 12), (8, 14), (8, 16)]⟩
def r28_4 : Reg := ⟨[oS 42 (.bin .eql (.int .i64) (.t 10) (.c (.int .i64 1))), oM 41 42], [42], 0, false, []⟩
def r28_5 : Reg := ⟨[oM 43 0, oS 44 (.nilck (.t 43)), oS 45 (.fieldAddr 11 (.t 44)), oS 46 (.load none (.t 45)), oS 47 (.idxS 1 (.t 46) (.c (.int .i64 0))), oS 48 (.load none (.t 47)), oS 49 (.fieldAddr 0 (.t 3)), oS 50 (.load none (.t 49)), oS 51 (.call 38 [(.t 48), (.t 50)]), oM 52 0, oS 53 (.nilck (.t 52)), oS 54 (.fieldAddr 11 (.t 53)), oS 55 (.load none (.t 54)), oS 56 (.idxS 1 (.t 55) (.c (.int .i64 1))), oS 57 (.load none (.t 56)), oS 58 (.fieldAddr 1 (.t 3)), oS 59 (.load none (.t 58)), oS 60 (.call 38 [(.t 57), (.t 59)]), oS 61 (.build (.ints .i64 [0, 0]) [(0, 1, (.t 51)), (1, 1, (.t 60))]), ⟨none, (.store 2 (.t 4) (.t 61)), none, 0⟩], [43, 44, 45, 46, 47, 48, 49, 50, 51, 52, 53, 54, 55, 56, 57, 58, 59, 60, 61], 0, true, [(8, 12), (8, 14), (8, 16)]⟩
def r28_6 : Reg := ⟨[oS 63 (.bin .eql (.int .i64) (.t 10) (.c (.int .i64 2))), oM 62 63], [63], 0, false, []⟩
def r28_7 : Reg := ⟨[oS 64 (.fieldAddr 0 (.t 3)), oS 65 (.load none (.t 64)), oM 66 0, oS 67 (.nilck (.t 66)), oS 68 (.fieldAddr 0 (.t 67)), oS 69 (.fieldAddr 9 (.t 68)), oS 70 (.load none (.t 69)), oS 71 (.bin .mul (.int .i64) (.t 65) (.t 70)), oS 72 (.bin .add (.int .i64) (.t 71) (.c (.int .i64 128))), oS 73 (.callP 39 [(.t 72), (.c (.int .i64 256))]), oS 74 (.callP 8 [(.t 73)]), oS 75 (.fieldAddr 1 (.t 3)), oS 76 (.load none (.t 75)), oM 77 0, oS 78 (.nilck (.t 77)), oS 79 (.fieldAddr 0 (.t 78)), oS 80 (.fieldAddr 9 (.t 79)), oS 81 (.load none (.t 80)), oS 82 (.bin .mul (.int .i64) (.t 76) (.t 81)), oS 83 (.bin .add (.int .i64) (.t 82) (.c (.int .i64 128))), oS 84 (.callP 39 [(.t 83), (.c (.int .i64 256))]), oS 85 (.callP 8 [(.t 84)]), oS 86 (.build (.ints .i64 [0, 0]) [(0, 1, (.t 74)), (1, 1, (.t 85))]), ⟨none, (.store 2 (.t 4) (.t 86)), none, 0⟩], [64, 65, 66, 67, 68, 69, 70, 71, 72, 73, 74, 75, 76, 77, 78, 79, 80, 81, 82, 83, 84, 85, 86], 0, false, []⟩
def r28_8 : Reg := ⟨[oS 88 (.bin .eql (.int .i64) (.t 10) (.c (.int .i64 3))), oM 87 88], [88], 0, false, []⟩
def r28_9 : Reg := ⟨[oS 89 (.fieldAddr 1 (.t 3)), oS 90 (.load none (.t 89)), oS 91 (.fieldAddr 0 (.t 3)), oS 92 (.load none (.t 91)), oS 93 (.build (.ints .i64 [0, 0]) [(0, 1, (.t 90)), (1, 1, (.t 92))]), ⟨none, (.store 2 (.t 4) (.t 93)), none, 0⟩], [89, 90, 91, 92, 93], 0, false, []⟩
def r28_10 : Reg := ⟨[oS 11 (.fieldAddr 0 (.t 3)), oS 12 (.load none (.t 11)), oS 13 (.fieldAddr 1 (.t 3)), oS 14 (.load none (.t 13)), oS 15 (.bin .add (.int .i64) (.t 12) (.t 14)), oS 16 (.callP 39 [(.t 15), (.c (.int .i64 2))]), oM 5 16], [11, 12, 13, 14, 15, 16], 0, false, []⟩
def r28_11 : Reg := ⟨[oM 17 5, oM 18 5, oS 19 (.build (.ints .i64 [0, 0]) [(0, 1, (.t 17)), (1, 1, (.t 18))]), ⟨none, (.store 2 (.t 4) (.t 19)), none, 0⟩], [17, 18, 19], 0, false, []⟩
def sf28 : SFn := { np := 2, vars := [0, 1, 3, 4, 5, 10, 20, 41, 62, 87], body := (.seq (.reg r28_0) (.seq (.reg r28_1) (.block 0 (.seq (.reg r28_2) (.cond (.t 20) (.seq (.reg r28_3) (.seq (.kill [0, 1, 3, 5, 10, 20, 41, 62, 87]) .ret)) (.seq (.reg r28_4) (.cond (.t 41) (.seq (.reg r28_5) (.seq (.kill [0, 1, 3, 5, 10, 20, 41, 62, 87]) .ret)) (.seq (.reg r28_6) (.cond (.t 62) (.seq (.reg r28_7) (.seq (.kill [0, 1, 3, 5, 10, 20, 41, 62, 87]) .ret)) (.seq (.reg r28_8) (.cond (.t 87) (.seq (.reg r28_9) (.seq (.kill [0, 1, 3, 5, 10, 20, 41, 62, 87]) .ret)) (.seq (.reg r28_10) (.seq (.reg r28_11) (.seq (.kill [0, 1, 3, 5, 10, 20, 41, 62, 87]) .ret)))))))))))))), res := [(.cell 4 (some 2))] }
def r29_0 : Reg := ⟨[oS 2 (.mv (.c (.int .i64 0)))], [], 0, false, []⟩
def r29_1 : Reg := ⟨[oM 4 0, oS 5 (.bin .eql (.int .i64) (.t 4) (.c (.int .i64 (-9223372036854775808)))), oM 3 5], [4, 5], 0, false, []⟩
def r29_2 : Reg := ⟨[oS 2 (.mv (.c (.int .i64 9223372036854775807)))], [], 0, false, []⟩
def r29_3 : Reg := ⟨[oM 7 0, oS 8 (.bin .lss (.int .i64) (.t 7) (.c (.int .i64 0))), oM 6 8], [7, 8], 0, false, []⟩
def r29_4 : Reg := ⟨[oM 9 0, oS 10 (.un .neg (.t 9)), oM 2 10], [9, 10], 0, false, []⟩
def r29_5 : Reg := ⟨[oM 11 0, oM 2 11], [11], 0, false, []⟩
def sf29 : SFn := { np := 1, vars := [0, 2, 3, 6], body := (.seq (.reg r29_0) (.seq (.block 0 (.seq (.reg r29_1) (.cond (.t 3) (.seq (.reg r29_2) (.seq (.kill [0, 3, 6]) .ret)) (.seq (.reg r29_3) (.cond (.t 6) (.seq (.reg r29_4) (.seq (.kill [0, 3, 6]) .ret)) .skip))))) (.seq (.reg r29_5) (.seq (.kill [0, 3, 6]) .ret)))), res := [(.tmp 2)] }
def r30_0 : Reg := ⟨[oS 2 (.mv (.c (.int .i64 0)))], [], 0, false, []⟩
def r30_1 : Reg := ⟨[oM 3 0, oS 4 (.callP 40 [(.t 3), (.c (.int .i64 (-1))), (.c (.int .i64 1))]), oM 2 4], [3, 4], 0, false, []⟩
def sf30 : SFn := { np := 1, vars := [0, 2], body := (.seq (.reg r30_0) (.seq (.reg r30_1) (.seq (.kill [0]) .ret))), res := [(.tmp 2)] }
def r31_0 : Reg := ⟨[oS 2 (.mv (.c (.int .i64 0)))], [], 0, false, []⟩
def r31_1 : Reg := ⟨[oM 3 0, oS 4 (.callP 40 [(.t 3), (.c (.int .i64 (-32768))), (.c (.int .i64 32767))]), oM 2 4], [3, 4], 0, false, []⟩
def sf31 : SFn := { np := 1, vars := [0, 2], body := (.seq (.reg r31_0) (.seq (.reg r31_1) (.seq (.kill [0]) .ret))), res := [(.tmp 2)] }
def r32_0 : Reg := ⟨[oS 2 (.mv (.c (.int .i64 0)))], [], 0, false, []⟩
def r32_1 : Reg := ⟨[oS 3 (.mv (.c (.int .i64 0)))], [], 0, false, []⟩
def r32_2 : Reg := ⟨[oM 7 0, oS 8 (.len .slice (.t 7)), oS 9 (.mv (.c (.int .i64 0)))], [], 0, false, []⟩
def r32_3 : Reg := ⟨[oS 10 (.bin .lss (.int .i64) (.t 9) (.t 8))], [], 0, false, []⟩
def r32_4 : Reg := ⟨[oS 11 (.idxS 1 (.t 7) (.t 9)), oS 12 (.load none (.t 11)), oM 5 12], [11, 12], 0, false, []⟩
def r32_5 : Reg := ⟨[oM 13 3, oM 14 5, oS 15 (.bin .add (.int .i64) (.t 13) (.t 14)), oM 6 15], [13, 14, 15], 0, false, []⟩
def r32_6 : Reg := ⟨[oM 18 3, oS 19 (.bin .gtr (.int .i64) (.t 18) (.c (.int .i64 0))), oM 20 19, oG 21 (.mv (.t 5)) 20 true, oG 22 (.bin .gtr (.int .i64) (.t 21) (.c (.int .i64 0))) 20 true, oS 23 (.pick (.t 20) (.t 22) (.c (.bool false))), oM 24 23, oG 25 (.mv (.t 6)) 24 true, oG 26 (.bin .lss (.int .i64) (.t 25) (.c (.int .i64 0))) 24 true, oS 27 (.pick (.t 24) (.t 26) (.c (.bool false))), oM 17 27], [18, 19, 20, 21, 22, 23, 24, 25, 26, 27], 0, false, []⟩
def r32_7 : Reg := ⟨[oS 3 (.mv (.c (.int .i64 9223372036854775807)))], [], 0, false, []⟩
def r32_8 : Reg := ⟨[oM 29 3, oS 30 (.bin .lss (.int .i64) (.t 29) (.c (.int .i64 0))), oM 31 30, oG 32 (.mv (.t 5)) 31 true, oG 33 (.bin .lss (.int .i64) (.t 32) (.c (.int .i64 0))) 31 true, oS 34 (.pick (.t 31) (.t 33) (.c (.bool false))), oM 35 34, oG 36 (.mv (.t 6)) 35 true, oG 37 (.bin .geq (.int .i64) (.t 36) (.c (.int .i64 0))) 35 true, oS 38 (.pick (.t 35) (.t 37) (.c (.bool false))), oM 28 38], [29, 30, 31, 32, 33, 34, 35, 36, 37, 38], 0, false, []⟩
def r32_9 : Reg := ⟨[oS 3 (.mv (.c (.int .i64 (-9223372036854775808))))], [], 0, false, []⟩
def r32_10 : Reg := ⟨[oM 16 6, oM 3 16], [16], 0, false, []⟩
def r32_11 : Reg := ⟨[oS 39 (.bin .add (.int .i64) (.t 9) (.c (.int .i64 1))), oM 9 39], [39], 0, false, []⟩
def l32_12 : SC := (.seq (.seq (.reg r32_3) (.seq (.cond (.t 10) .skip (.seq (.kill [0, 2, 5, 6, 7, 8, 9, 10, 17, 28]) (.exit 0))) (.seq (.block 1 (.seq (.reg r32_4) (.seq (.reg r32_5) (.block 2 (.seq (.reg r32_6) (.cond (.t 17) (.reg r32_7) (.seq (.reg r32_8) (.cond (.t 28) (.reg r32_9) (.reg r32_10))))))))) (.reg r32_11)))) (.kill [0, 2, 5, 6, 10, 17, 28]))
def r32_13 : Reg := ⟨[oM 40 3, oM 2 40], [40], 0, false, []⟩
def sf32 : SFn := { np := 1, vars := [0, 2, 3, 5, 6, 7, 8, 9, 10, 17, 28], body := (.seq (.reg r32_0) (.seq (.reg r32_1) (.seq (.seq (.reg r32_2) (.block 0 (.seq (.kill [0, 2, 5, 6, 10, 17, 28]) (.loop l32_12)))) (.seq (.reg r32_13) (.seq (.kill [0, 3, 5, 6, 7, 8, 9, 10, 17, 28]) .ret))))), res := [(.tmp 2)] }
def r33_0 : Reg := ⟨[oS 4 (.mv (.c (.int .i64 0)))], [], 0, false, []⟩
def r33_1 : Reg := ⟨[oM 9 0, oS 10 (.bin .eql .ptr (.t 9) (.c .nilp))], [9], 0, false, []⟩
def r33_2 : Reg := ⟨[oM 11 1, oM 4 11], [11], 0, false, []⟩
def r33_3 : Reg := ⟨[oM 12 1, oS 13 (.callP 40 [(.t 12), (.c (.int .i64 (-32768))), (.c (.int .i64 32767))]), oM 5 13], [12, 13], 0, false, []⟩
def r33_4 : Reg := ⟨[oM 14 0, oS 15 (.nilck (.t 14)), oS 16 (.fieldAddr 0 (.t 15)), oS 17 (.load (some 5) (.t 16)), oS 6 (.alloc (.ints .i64 [0, 0, 0, 0, 0])), ⟨none, (.store 5 (.t 6) (.t 17)), none, 1⟩], [14, 15, 16, 17], 1, true, []⟩
def r33_5 : Reg := ⟨[oS 18 (.fieldAddr 0 (.t 6)), oS 19 (.load none (.t 18)), oM 20 5, oS 21 (.bin .mul (.int .i64) (.t 19) (.t 20)), oS 22 (.fieldAddr 1 (.t 6)), oS 23 (.load none (.t 22)), oM 24 0, oS 25 (.nilck (.t 24)), oS 26 (.fieldAddr 5 (.t 25)), oS 27 (.load none (.t 26)), oS 28 (.bin .mul (.int .i64) (.t 23) (.t 27)), oS 29 (.bin .add (.int .i64) (.t 21) (.t 28)), oS 30 (.fieldAddr 2 (.t 6)), oS 31 (.load none (.t 30)), oM 32 0, oS 33 (.nilck (.t 32)), oS 34 (.fieldAddr 6 (.t 33)), oS 35 (.load none (.t 34)), oS 36 (.bin .mul (.int .i64) (.t 31) (.t 35)), oS 37 (.bin .add (.int .i64) (.t 29) (.t 36)), oS 38 (.fieldAddr 3 (.t 6)), oS 39 (.load none (.t 38)), oM 40 0, oS 41 (.nilck (.t 40)), oS 42 (.fieldAddr 7 (.t 41)), oS 43 (.load none (.t 42)), oS 44 (.bin .mul (.int .i64) (.t 39) (.t 43)), oS 45 (.bin .add (.int .i64) (.t 37) (.t 44)), oS 46 (.fieldAddr 4 (.t 6)), oS 47 (.load none (.t 46)), oM 48 0, oS 49 (.nilck (.t 48)), oS 50 (.fieldAddr 8 (.t 49)), oS 51 (.load none (.t 50)), oS 52 (.bin .mul (.int .i64) (.t 47) (.t 51)), oS 53 (.bin .add (.int .i64) (.t 45) (.t 52)), oM 7 53], [18, 19, 20, 21, 22, 23, 24, 25, 26, 27, 28, 29, 30, 31, 32, 33, 34, 35, 36, 37, 38, 39, 40, 41, 42, 43, 44, 45, 46, 47, 48, 49, 50, 51, 52, 53], 0, false, []⟩
def r33_6 : Reg := ⟨[oM 54 7, oS 55 (.callP 41 [(.t 54), (.c (.int .i64 14))]), oS 56 (.callP 31 [(.t 55)]), oM 8 56], [54, 55, 56], 0, false, []⟩
def r33_7 : Reg := ⟨[oM 57 0, oM 58 0, oM 59 0, oS 60 (.nilck (.t 59)), oS 61 (.fieldAddr 5 (.t 60)), oS 62 (.load none (.t 61)), oM 63 5, oS 64 (.nilck (.t 57)), oS 65 (.fieldAddr 6 (.t 64)), ⟨none, (.store 1 (.t 65) (.t 62)), none, 0⟩, oS 66 (.nilck (.t 58)), oS 67 (.fieldAddr 5 (.t 66)), ⟨none, (.store 1 (.t 67) (.t 63)), none, 0⟩], [57, 58, 59, 60, 61, 62, 63, 64, 65, 66, 67], 0, false, []⟩
def r33_8 : Reg := ⟨[oM 68 0, oM 69 0, oM 70 0, oS 71 (.nilck (.t 70)), oS 72 (.fieldAddr 7 (.t 71)), oS 73 (.load none (.t 72)), oM 74 8, oS 75 (.nilck (.t 68)), oS 76 (.fieldAddr 8 (.t 75)), ⟨none, (.store 1 (.t 76) (.t 73)), none, 0⟩, oS 77 (.nilck (.t 69)), oS 78 (.fieldAddr 7 (.t 77)), ⟨none, (.store 1 (.t 78) (.t 74)), none, 0⟩], [68, 69, 70, 71, 72, 73, 74, 75, 76, 77, 78], 0, false, []⟩
def r33_9 : Reg := ⟨[oM 79 8, oM 4 79], [79], 0, false, []⟩
def sf33 : SFn := { np := 2, vars := [0, 1, 4, 5, 6, 7, 8, 10], body := (.seq (.reg r33_0) (.seq (.seq (.reg r33_1) (.cond (.t 10) (.seq (.reg r33_2) (.seq (.kill [0, 1, 5, 6, 7, 8, 10]) .ret)) .skip)) (.seq (.reg r33_3) (.seq (.reg r33_4) (.seq (.reg r33_5) (.seq (.reg r33_6) (.seq (.reg r33_7) (.seq (.reg r33_8) (.seq (.reg r33_9) (.seq (.kill [0, 1, 5, 6, 7, 8, 10]) .ret)))))))))), res := [(.tmp 4)] }
def r34_0 : Reg := ⟨[oS 4 (.mv (.c (.int .i64 0)))], [], 0, false, []⟩
def r34_1 : Reg := ⟨[oM 6 0, oS 7 (.bin .eql .ptr (.t 6) (.c .nilp)), oM 8 7, oG 9 (.mv (.t 0)) 8 false, oG 10 (.nilck (.t 9)) 8 false, oG 11 (.fieldAddr 3 (.t 10)) 8 false, oG 12 (.load none (.t 11)) 8 false, oG 13 (.len .slice (.t 12)) 8 false, oG 14 (.bin .eql (.int .i64) (.t 13) (.c (.int .i64 0))) 8 false, oS 15 (.pick (.t 8) (.c (.bool true)) (.t 14))], [6, 7, 8, 9, 10, 11, 12, 13, 14], 0, false, []⟩
def r34_2 : Reg := ⟨[oM 16 1, oM 4 16], [16], 0, false, []⟩
def r34_3 : Reg := ⟨[oM 17 0, oS 18 (.nilck (.t 17)), oS 19 (.fieldAddr 3 (.t 18)), oS 20 (.load none (.t 19)), oM 21 0, oS 22 (.nilck (.t 21)), oS 23 (.fieldAddr 4 (.t 22)), oS 24 (.load none (.t 23)), oS 25 (.idxS 1 (.t 20) (.t 24)), oS 26 (.load none (.t 25)), oM 5 26], [17, 18, 19, 20, 21, 22, 23, 24, 25, 26], 0, false, []⟩
def r34_4 : Reg := ⟨[oM 27 0, oS 28 (.nilck (.t 27)), oS 29 (.fieldAddr 3 (.t 28)), oS 30 (.load none (.t 29)), oM 31 0, oS 32 (.nilck (.t 31)), oS 33 (.fieldAddr 4 (.t 32)), oS 34 (.load none (.t 33)), oM 35 1, oM 36 5, oM 37 0, oS 38 (.nilck (.t 37)), oS 39 (.fieldAddr 0 (.t 38)), oS 40 (.fieldAddr 1 (.t 39)), oS 41 (.load none (.t 40)), oS 42 (.bin .mul (.int .i64) (.t 36) (.t 41)), oS 43 (.callP 41 [(.t 42), (.c (.int .i64 8))]), oS 44 (.bslice 1 2 (.int .i64 0) [(0, 1, (.t 35)), (1, 1, (.t 43))]), ⟨(some 45), (.call 32 [(.t 44)]), none, 1⟩, ⟨(some 46), (.callP 31 [(.t 45)]), none, 1⟩, ⟨(some 47), (.idxS 1 (.t 30) (.t 34)), none, 1⟩, ⟨none, (.store 1 (.t 47) (.t 46)), none, 1⟩], [27, 28, 29, 30, 31, 32, 33, 34, 35, 36, 37, 38, 39, 40, 41, 42, 43, 44, 45, 46, 47], 1, true, [(3, 17), (7, 17), (3, 18), (7, 18)]⟩
def r34_5 : Reg := ⟨[oM 48 0, oM 49 0, oS 50 (.nilck (.t 49)), oS 51 (.fieldAddr 4 (.t 50)), oS 52 (.load none (.t 51)), oS 53 (.bin .add (.int .i64) (.t 52) (.c (.int .i64 1))), oM 54 0, oS 55 (.nilck (.t 54)), oS 56 (.fieldAddr 3 (.t 55)), oS 57 (.load none (.t 56)), oS 58 (.len .slice (.t 57)), oS 59 (.bin .rem (.int .i64) (.t 53) (.t 58)), oS 60 (.nilck (.t 48)), oS 61 (.fieldAddr 4 (.t 60)), ⟨none, (.store 1 (.t 61) (.t 59)), none, 0⟩], [48, 49, 50, 51, 52, 53, 54, 55, 56, 57, 58, 59, 60, 61], 0, false, []⟩
def r34_6 : Reg := ⟨[oM 62 1, oM 63 5, oM 64 0, oS 65 (.nilck (.t 64)), oS 66 (.fieldAddr 0 (.t 65)), oS 67 (.fieldAddr 2 (.t 66)), oS 68 (.load none (.t 67)), oS 69 (.bin .mul (.int .i64) (.t 63) (.t 68)), oS 70 (.callP 41 [(.t 69), (.c (.int .i64 8))]), oS 71 (.bslice 1 2 (.int .i64 0) [(0, 1, (.t 62)), (1, 1, (.t 70))]), ⟨(some 72), (.call 32 [(.t 71)]), none, 1⟩, ⟨(some 73), (.callP 31 [(.t 72)]), none, 1⟩, ⟨(some 4), (.mv (.t 73)), none, 1⟩], [62, 63, 64, 65, 66, 67, 68, 69, 70, 71, 72, 73], 1, true, []⟩
def sf34 : SFn := { np := 2, vars := [0, 1, 4, 5, 15], body := (.seq (.reg r34_0) (.seq (.seq (.reg r34_1) (.cond (.t 15) (.seq (.reg r34_2) (.seq (.kill [0, 1, 5, 15]) .ret)) .skip)) (.seq (.reg r34_3) (.seq (.reg r34_4) (.seq (.reg r34_5) (.seq (.reg r34_6) (.seq (.kill [0, 1, 5, 15]) .ret))))))), res := [(.tmp 4)] }
def r35_0 : Reg := ⟨[oS 4 (.mv (.c (.int .i64 0)))], [], 0, false, []⟩
def r35_1 : Reg := ⟨[oM 5 0, oM 6 1, oS 7 (.bin .mul (.int .i64) (.t 5) (.t 6)), oS 8 (.callP 41 [(.t 7), (.c (.int .i64 8))]), oS 9 (.callP 31 [(.t 8)]), oM 4 9], [5, 6, 7, 8, 9], 0, false, []⟩
def sf35 : SFn := { np := 2, vars := [0, 1, 4], body := (.seq (.reg r35_0) (.seq (.reg r35_1) (.seq (.kill [0, 1]) .ret))), res := [(.tmp 4)] }
def r36_0 : Reg := ⟨[oS 4 (.mv (.c (.int .i64 0)))], [], 0, false, []⟩
def r36_1 : Reg := ⟨[oM 6 1, oS 7 (.bin .lss (.int .i64) (.t 6) (.c (.int .i64 1)))], [6], 0, false, []⟩
def r36_2 : Reg := ⟨[oS 4 (.mv (.c (.int .i64 0)))], [], 0, false, []⟩
def r36_3 : Reg := ⟨[oM 8 0, oM 9 1, oS 10 (.bin .quo (.int .i64) (.t 8) (.t 9)), oM 5 10], [8, 9, 10], 0, false, []⟩
def r36_4 : Reg := ⟨[oM 11 0, oM 12 1, oS 13 (.bin .rem (.int .i64) (.t 11) (.t 12)), oS 14 (.bin .lss (.int .i64) (.t 13) (.c (.int .i64 0)))], [11, 12, 13], 0, false, []⟩
def r36_5 : Reg := ⟨[oM 15 5, oS 16 (.bin .sub (.int .i64) (.t 15) (.c (.int .i64 1))), oM 5 16], [15, 16], 0, false, []⟩
def r36_6 : Reg := ⟨[oM 17 5, oM 4 17], [17], 0, false, []⟩
def sf36 : SFn := { np := 2, vars := [0, 1, 4, 5, 7, 14], body := (.seq (.reg r36_0) (.seq (.seq (.reg r36_1) (.cond (.t 7) (.seq (.reg r36_2) (.seq (.kill [0, 1, 5, 7, 14]) .ret)) .skip)) (.seq (.reg r36_3) (.seq (.seq (.reg r36_4) (.cond (.t 14) (.reg r36_5) .skip)) (.seq (.reg r36_6) (.seq (.kill [0, 1, 5, 7, 14]) .ret)))))), res := [(.tmp 4)] }
def r37_0 : Reg := ⟨[oS 4 (.mv (.c (.int .i64 0)))], [], 0, false, []⟩
def r37_1 : Reg := ⟨[oM 9 1, oS 10 (.callP 42 [(.t 9)]), oM 5 10], [9, 10], 0, false, []⟩
def r37_2 : Reg := ⟨[oM 11 0, oS 12 (.nilck (.t 11)), oS 13 (.fieldAddr 0 (.t 12)), oS 14 (.fieldAddr 0 (.t 13)), oS 15 (.load none (.t 14)), oM 16 5, oS 17 (.bin .mul (.int .i64) (.t 15) (.t 16)), oM 18 0, oS 19 (.nilck (.t 18)), oS 20 (.fieldAddr 0 (.t 19)), oS 21 (.fieldAddr 1 (.t 20)), oS 22 (.load none (.t 21)), oM 23 0, oS 24 (.nilck (.t 23)), oS 25 (.fieldAddr 5 (.t 24)), oS 26 (.load none (.t 25)), oS 27 (.bin .mul (.int .i64) (.t 22) (.t 26)), oS 28 (.bin .add (.int .i64) (.t 17) (.t 27)), oM 29 0, oS 30 (.nilck (.t 29)), oS 31 (.fieldAddr 0 (.t 30)), oS 32 (.fieldAddr 2 (.t 31)), oS 33 (.load none (.t 32)), oM 34 0, oS 35 (.nilck (.t 34)), oS 36 (.fieldAddr 6 (.t 35)), oS 37 (.load none (.t 36)), oS 38 (.bin .mul (.int .i64) (.t 33) (.t 37)), oS 39 (.bin .add (.int .i64) (.t 28) (.t 38)), oM 40 0, oS 41 (.nilck (.t 40)), oS 42 (.fieldAddr 0 (.t 41)), oS 43 (.fieldAddr 3 (.t 42)), oS 44 (.load none (.t 43)), oM 45 0, oS 46 (.nilck (.t 45)), oS 47 (.fieldAddr 7 (.t 46)), oS 48 (.load none (.t 47)), oS 49 (.bin .mul (.int .i64) (.t 44) (.t 48)), oS 50 (.bin .add (.int .i64) (.t 39) (.t 49)), oM 51 0, oS 52 (.nilck (.t 51)), oS 53 (.fieldAddr 0 (.t 52)), oS 54 (.fieldAddr 4 (.t 53)), oS 55 (.load none (.t 54)), oM 56 0, oS 57 (.nilck (.t 56)), oS 58 (.fieldAddr 8 (.t 57)), oS 59 (.load none (.t 58)), oS 60 (.bin .mul (.int .i64) (.t 55) (.t 59)), oS 61 (.bin .add (.int .i64) (.t 50) (.t 60)), oS 62 (.bin .add (.int .i64) (.t 61) (.c (.int .i64 8192))), oM 6 62], [11, 12, 13, 14, 15, 16, 17, 18, 19, 20, 21, 22, 23, 24, 25, 26, 27, 28, 29, 30, 31, 32, 33, 34, 35, 36, 37, 38, 39, 40, 41, 42, 43, 44, 45, 46, 47, 48, 49, 50, 51, 52, 53, 54, 55, 56, 57, 58, 59, 60, 61, 62], 0, false, []⟩
def r37_3 : Reg := ⟨[oM 63 6, oS 64 (.bin .quo (.int .i64) (.t 63) (.c (.int .i64 16384))), oM 7 64], [63, 64], 0, false, []⟩
def r37_4 : Reg := ⟨[oM 65 6, oS 66 (.bin .rem (.int .i64) (.t 65) (.c (.int .i64 16384))), oS 67 (.bin .lss (.int .i64) (.t 66) (.c (.int .i64 0)))], [65, 66], 0, false, []⟩
def r37_5 : Reg := ⟨[oM 68 7, oS 69 (.bin .sub (.int .i64) (.t 68) (.c (.int .i64 1))), oM 7 69], [68, 69], 0, false, []⟩
def r37_6 : Reg := ⟨[oM 70 7, oS 71 (.callP 42 [(.t 70)]), oM 8 71], [70, 71], 0, false, []⟩
def r37_7 : Reg := ⟨[oM 72 0, oM 73 0, oS 74 (.nilck (.t 73)), oS 75 (.fieldAddr 5 (.t 74)), oS 76 (.load none (.t 75)), oS 77 (.nilck (.t 72)), oS 78 (.fieldAddr 6 (.t 77)), ⟨none, (.store 1 (.t 78) (.t 76)), none, 0⟩], [72, 73, 74, 75, 76, 77, 78], 0, false, []⟩
def r37_8 : Reg := ⟨[oM 79 0, oM 80 5, oS 81 (.nilck (.t 79)), oS 82 (.fieldAddr 5 (.t 81)), ⟨none, (.store 1 (.t 82) (.t 80)), none, 0⟩], [79, 80, 81, 82], 0, false, []⟩
def r37_9 : Reg := ⟨[oM 83 0, oM 84 0, oS 85 (.nilck (.t 84)), oS 86 (.fieldAddr 7 (.t 85)), oS 87 (.load none (.t 86)), oS 88 (.nilck (.t 83)), oS 89 (.fieldAddr 8 (.t 88)), ⟨none, (.store 1 (.t 89) (.t 87)), none, 0⟩], [83, 84, 85, 86, 87, 88, 89], 0, false, []⟩
def r37_10 : Reg := ⟨[oM 90 0, oM 91 8, oS 92 (.nilck (.t 90)), oS 93 (.fieldAddr 7 (.t 92)), ⟨none, (.store 1 (.t 93) (.t 91)), none, 0⟩], [90, 91, 92, 93], 0, false, []⟩
def r37_11 : Reg := ⟨[oM 94 8, oM 4 94], [94], 0, false, []⟩
def sf37 : SFn := { np := 2, vars := [0, 1, 4, 5, 6, 7, 8, 67], body := (.seq (.reg r37_0) (.seq (.reg r37_1) (.seq (.reg r37_2) (.seq (.reg r37_3) (.seq (.seq (.reg r37_4) (.cond (.t 67) (.reg r37_5) .skip)) (.seq (.reg r37_6) (.seq (.reg r37_7) (.seq (.reg r37_8) (.seq (.reg r37_9) (.seq (.reg r37_10) (.seq (.reg r37_11) (.seq (.kill [0, 1, 5, 6, 7, 8, 67]) .ret)))))))))))), res := [(.tmp 4)] }
def r38_0 : Reg := ⟨[oS 4 (.mv (.c (.int .i64 0)))], [], 0, false, []⟩
def r38_1 : Reg := ⟨[oS 5 (.mv (.c (.int .i64 0)))], [], 0, false, []⟩
def r38_2 : Reg := ⟨[oM 6 0, oS 7 (.nilck (.t 6)), oS 8 (.fieldAddr 3 (.t 7)), oS 9 (.load none (.t 8)), oS 10 (.len .slice (.t 9)), oM 11 0, oS 12 (.nilck (.t 11)), oS 13 (.fieldAddr 0 (.t 12)), oS 14 (.fieldAddr 0 (.t 13)), oS 15 (.load none (.t 14)), oS 16 (.bin .geq (.int .i64) (.t 10) (.t 15))], [6, 7, 8, 9, 10, 11, 12, 13, 14, 15], 0, false, []⟩
def r38_3 : Reg := ⟨[oM 17 0, oS 18 (.nilck (.t 17)), oS 19 (.fieldAddr 3 (.t 18)), oS 20 (.load none (.t 19)), oM 21 0, oS 22 (.nilck (.t 21)), oS 23 (.fieldAddr 3 (.t 22)), oS 24 (.load none (.t 23)), oS 25 (.len .slice (.t 24)), oM 26 0, oS 27 (.nilck (.t 26)), oS 28 (.fieldAddr 0 (.t 27)), oS 29 (.fieldAddr 0 (.t 28)), oS 30 (.load none (.t 29)), oS 31 (.bin .sub (.int .i64) (.t 25) (.t 30)), oS 32 (.idxS 1 (.t 20) (.t 31)), oS 33 (.load none (.t 32)), oM 5 33], [17, 18, 19, 20, 21, 22, 23, 24, 25, 26, 27, 28, 29, 30, 31, 32, 33], 0, false, []⟩
def r38_4 : Reg := ⟨[oM 34 0, oM 35 0, oS 36 (.nilck (.t 35)), oS 37 (.fieldAddr 3 (.t 36)), oS 38 (.load none (.t 37)), oM 39 1, oM 40 5, oM 41 0, oS 42 (.nilck (.t 41)), oS 43 (.fieldAddr 0 (.t 42)), oS 44 (.fieldAddr 1 (.t 43)), oS 45 (.load none (.t 44)), oS 46 (.callP 44 [(.t 40), (.t 45)]), oS 47 (.bin .add (.int .i64) (.t 39) (.t 46)), oS 48 (.callP 43 [(.t 47)]), oS 49 (.bslice 1 1 (.int .i64 0) [(0, 1, (.t 48))]), ⟨(some 50), (.app 1 8 (.t 38) (.t 49)), none, 1⟩, ⟨(some 51), (.nilck (.t 34)), none, 2⟩, ⟨(some 52), (.fieldAddr 3 (.t 51)), none, 2⟩, ⟨none, (.store 1 (.t 52) (.t 50)), none, 2⟩], [34, 35, 36, 37, 38, 39, 40, 41, 42, 43, 44, 45, 46, 47, 48, 49, 50, 51, 52], 2, true, [(4, 15)]⟩
def r38_5 : Reg := ⟨[oM 53 1, oM 54 5, oM 55 0, oS 56 (.nilck (.t 55)), oS 57 (.fieldAddr 0 (.t 56)), oS 58 (.fieldAddr 2 (.t 57)), oS 59 (.load none (.t 58)), oS 60 (.callP 44 [(.t 54), (.t 59)]), oS 61 (.bin .add (.int .i64) (.t 53) (.t 60)), oS 62 (.callP 43 [(.t 61)]), oM 4 62], [53, 54, 55, 56, 57, 58, 59, 60, 61, 62], 0, false, []⟩
def sf38 : SFn := { np := 2, vars := [0, 1, 4, 5, 16], body := (.seq (.reg r38_0) (.seq (.reg r38_1) (.seq (.seq (.reg r38_2) (.cond (.t 16) (.reg r38_3) .skip)) (.seq (.reg r38_4) (.seq (.reg r38_5) (.seq (.kill [0, 1, 5, 16]) .ret)))))), res := [(.tmp 4)] }
def r39_0 : Reg := ⟨[oS 4 (.mv (.c (.int .i64 0)))], [], 0, false, []⟩
def r39_1 : Reg := ⟨[oM 6 0, oM 7 1, oS 8 (.bin .quo (.int .i64) (.t 6) (.t 7)), oM 5 8], [6, 7, 8], 0, false, []⟩
def r39_2 : Reg := ⟨[oM 9 0, oM 10 1, oS 11 (.bin .rem (.int .i64) (.t 9) (.t 10)), oS 12 (.bin .lss (.int .i64) (.t 11) (.c (.int .i64 0)))], [9, 10, 11], 0, false, []⟩
def r39_3 : Reg := ⟨[oM 13 5, oS 14 (.bin .sub (.int .i64) (.t 13) (.c (.int .i64 1))), oM 5 14], [13, 14], 0, false, []⟩
def r39_4 : Reg := ⟨[oM 15 5, oM 4 15], [15], 0, false, []⟩
def sf39 : SFn := { np := 2, vars := [0, 1, 4, 5, 12], body := (.seq (.reg r39_0) (.seq (.reg r39_1) (.seq (.seq (.reg r39_2) (.cond (.t 12) (.reg r39_3) .skip)) (.seq (.reg r39_4) (.seq (.kill [0, 1, 5, 12]) .ret))))), res := [(.tmp 4)] }
def r40_0 : Reg := ⟨[oS 6 (.mv (.c (.int .i64 0)))], [], 0, false, []⟩
def r40_1 : Reg := ⟨[oM 8 0, oM 9 1, oS 10 (.bin .lss (.int .i64) (.t 8) (.t 9)), oM 11 10, oG 12 (.mv (.t 2)) 11 false, oG 13 (.mv (.t 1)) 11 false, oG 14 (.bin .lss (.int .i64) (.t 12) (.t 13)) 11 false, oS 15 (.pick (.t 11) (.c (.bool true)) (.t 14)), oM 7 15], [8, 9, 10, 11, 12, 13, 14, 15], 0, false, []⟩
def r40_2 : Reg := ⟨[oM 16 1, oM 6 16], [16], 0, false, []⟩
def r40_3 : Reg := ⟨[oM 18 0, oM 19 2, oS 20 (.bin .gtr (.int .i64) (.t 18) (.t 19)), oM 17 20], [18, 19, 20], 0, false, []⟩
def r40_4 : Reg := ⟨[oM 21 2, oM 6 21], [21], 0, false, []⟩
def r40_5 : Reg := ⟨[oM 22 0, oM 6 22], [22], 0, false, []⟩
def sf40 : SFn := { np := 3, vars := [0, 1, 2, 6, 7, 17], body := (.seq (.reg r40_0) (.seq (.block 0 (.seq (.reg r40_1) (.cond (.t 7) (.seq (.reg r40_2) (.seq (.kill [0, 1, 2, 7, 17]) .ret)) (.seq (.reg r40_3) (.cond (.t 17) (.seq (.reg r40_4) (.seq (.kill [0, 1, 2, 7, 17]) .ret)) .skip))))) (.seq (.reg r40_5) (.seq (.kill [0, 1, 2, 7, 17]) .ret)))), res := [(.tmp 6)] }
def r41_0 : Reg := ⟨[oS 4 (.mv (.c (.int .i64 0)))], [], 0, false, []⟩
def r41_1 : Reg := ⟨[oM 6 1, oS 7 (.bin .lss (.int .i64) (.t 6) (.c (.int .i64 0))), oM 8 7, oG 9 (.mv (.t 1)) 8 false, oG 10 (.bin .gtr (.int .i64) (.t 9) (.c (.int .i64 62))) 8 false, oS 11 (.pick (.t 8) (.c (.bool true)) (.t 10)), oM 5 11], [6, 7, 8, 9, 10, 11], 0, false, []⟩
def r41_2 : Reg := ⟨[oS 4 (.mv (.c (.int .i64 0)))], [], 0, false, []⟩
def r41_3 : Reg := ⟨[oM 13 1, oS 14 (.bin .eql (.int .i64) (.t 13) (.c (.int .i64 0))), oM 12 14], [13, 14], 0, false, []⟩
def r41_4 : Reg := ⟨[oM 15 0, oM 4 15], [15], 0, false, []⟩
def r41_5 : Reg := ⟨[oM 16 0, oM 17 1, oS 18 (.bin .shr (.int .i64) (.t 16) (.t 17)), oM 19 0, oM 20 1, oS 21 (.bin .sub (.int .i64) (.t 20) (.c (.int .i64 1))), oS 22 (.bin .shr (.int .i64) (.t 19) (.t 21)), oS 23 (.bin .and (.int .i64) (.t 22) (.c (.int .i64 1))), oS 24 (.bin .add (.int .i64) (.t 18) (.t 23)), oM 4 24], [16, 17, 18, 19, 20, 21, 22, 23, 24], 0, false, []⟩
def sf41 : SFn := { np := 2, vars := [0, 1, 4, 5, 12], body := (.seq (.reg r41_0) (.seq (.block 0 (.seq (.reg r41_1) (.cond (.t 5) (.seq (.reg r41_2) (.seq (.kill [0, 1, 5, 12]) .ret)) (.seq (.reg r41_3) (.cond (.t 12) (.seq (.reg r41_4) (.seq (.kill [0, 1, 5, 12]) .ret)) .skip))))) (.seq (.reg r41_5) (.seq (.kill [0, 1, 5, 12]) .ret)))), res := [(.tmp 4)] }
def r42_0 : Reg := ⟨[oS 2 (.mv (.c (.int .i64 0)))], [], 0, false, []⟩
def r42_1 : Reg := ⟨[oM 3 0, oS 4 (.bin .gtr (.int .i64) (.t 3) (.c (.int .i64 32767)))], [3], 0, false, []⟩
def r42_2 : Reg := ⟨[oS 2 (.mv (.c (.int .i64 32767)))], [], 0, false, []⟩
def r42_3 : Reg := ⟨[oM 5 0, oS 6 (.bin .lss (.int .i64) (.t 5) (.c (.int .i64 (-32768))))], [5], 0, false, []⟩
def r42_4 : Reg := ⟨[oS 2 (.mv (.c (.int .i64 (-32768))))], [], 0, false, []⟩
def r42_5 : Reg := ⟨[oM 7 0, oM 2 7], [7], 0, false, []⟩
def sf42 : SFn := { np := 1, vars := [0, 2, 4, 6], body := (.seq (.reg r42_0) (.seq (.seq (.reg r42_1) (.cond (.t 4) (.seq (.reg r42_2) (.seq (.kill [0, 4, 6]) .ret)) .skip)) (.seq (.seq (.reg r42_3) (.cond (.t 6) (.seq (.reg r42_4) (.seq (.kill [0, 4, 6]) .ret)) .skip)) (.seq (.reg r42_5) (.seq (.kill [0, 4, 6]) .ret))))), res := [(.tmp 2)] }
def r43_0 : Reg := ⟨[oS 2 (.mv (.c (.int .i64 0)))], [], 0, false, []⟩
def r43_1 : Reg := ⟨[oM 3 0, oS 4 (.bin .gtr (.int .i64) (.t 3) (.c (.int .i64 32767)))], [3], 0, false, []⟩
def r43_2 : Reg := ⟨[oS 2 (.mv (.c (.int .i64 32767)))], [], 0, false, []⟩
def r43_3 : Reg := ⟨[oM 5 0, oS 6 (.bin .lss (.int .i64) (.t 5) (.c (.int .i64 (-32768))))], [5], 0, false, []⟩
def r43_4 : Reg := ⟨[oS 2 (.mv (.c (.int .i64 (-32768))))], [], 0, false, []⟩
def r43_5 : Reg := ⟨[oM 7 0, oM 2 7], [7], 0, false, []⟩
def sf43 : SFn := { np := 1, vars := [0, 2, 4, 6], body := (.seq (.reg r43_0) (.seq (.seq (.reg r43_1) (.cond (.t 4) (.seq (.reg r43_2) (.seq (.kill [0, 4, 6]) .ret)) .skip)) (.seq (.seq (.reg r43_3) (.cond (.t 6) (.seq (.reg r43_4) (.seq (.kill [0, 4, 6]) .ret)) .skip)) (.seq (.reg r43_5) (.seq (.kill [0, 4, 6]) .ret))))), res := [(.tmp 2)] }
def r44_0 : Reg := ⟨[oS 4 (.mv (.c (.int .i64 0)))], [], 0, false, []⟩
def r44_1 : Reg := ⟨[oM 7 0, oM 8 1, oS 9 (.bin .mul (.int .i64) (.t 7) (.t 8)), oS 10 (.bin .add (.int .i64) (.t 9) (.c (.int .i64 128))), oM 5 10], [7, 8, 9, 10], 0, false, []⟩
def r44_2 : Reg := ⟨[oM 11 5, oS 12 (.bin .quo (.int .i64) (.t 11) (.c (.int .i64 256))), oM 6 12], [11, 12], 0, false, []⟩
def r44_3 : Reg := ⟨[oM 13 5, oS 14 (.bin .rem (.int .i64) (.t 13) (.c (.int .i64 256))), oS 15 (.bin .lss (.int .i64) (.t 14) (.c (.int .i64 0)))], [13, 14], 0, false, []⟩
def r44_4 : Reg := ⟨[oM 16 6, oS 17 (.bin .sub (.int .i64) (.t 16) (.c (.int .i64 1))), oM 6 17], [16, 17], 0, false, []⟩
def r44_5 : Reg := ⟨[oM 18 6, oM 4 18], [18], 0, false, []⟩
def sf44 : SFn := { np := 2, vars := [0, 1, 4, 5, 6, 15], body := (.seq (.reg r44_0) (.seq (.reg r44_1) (.seq (.reg r44_2) (.seq (.seq (.reg r44_3) (.cond (.t 15) (.reg r44_4) .skip)) (.seq (.reg r44_5) (.seq (.kill [0, 1, 5, 6, 15]) .ret)))))), res := [(.tmp 4)] }
theorem c4 : cFn Try.prog 4 = some sf4 := by kernel_rfl
theorem k4 : Zl Try.prog 4 = true := by kernel_rfl
theorem p4 : ∀ F, Try.prog.funcs[4]? = some F → F.params.size ≤ F.ntmps := fun F h => by rw [Try.func4] at h; cases h; exact of_decide_eq_true (by kernel_rfl)
theorem c6 : cFn Try.prog 6 = some sf6 := by kernel_rfl
theorem k6 : Zl Try.prog 6 = true := by kernel_rfl
theorem p6 : ∀ F, Try.prog.funcs[6]? = some F → F.params.size ≤ F.ntmps := fun F h => by rw [Try.func6] at h; cases h; exact of_decide_eq_true (by kernel_rfl)
theorem c8 : cFn Try.prog 8 = some sf8 := by kernel_rfl
theorem k8 : Zl Try.prog 8 = true := by kernel_rfl
theorem p8 : ∀ F, Try.prog.funcs[8]? = some F → F.params.size ≤ F.ntmps := fun F h => by rw [Try.func8] at h; cases h; exact of_decide_eq_true (by kernel_rfl)
theorem c9 : cFn Try.prog 9 = some sf9 := by kernel_rfl
theorem k9 : Zl Try.prog 9 = true := by kernel_rfl
theorem p9 : ∀ F, Try.prog.funcs[9]? = some F → F.params.size ≤ F.ntmps := fun F h => by rw [Try.func9] at h; cases h; exact of_decide_eq_true (by kernel_rfl)
theorem c10 : cFn Try.prog 10 = some sf10 := by kernel_rfl
theorem k10 : Zl Try.prog 10 = true := by kernel_rfl
theorem p10 : ∀ F, Try.prog.funcs[10]? = some F → F.params.size ≤ F.ntmps := fun F h => by rw [Try.func10] at h; cases h; exact of_decide_eq_true (by kernel_rfl)
theorem c11 : cFn Try.prog 11 = some sf11 := by kernel_rfl
theorem k11 : Zl Try.prog 11 = true := by kernel_rfl
theorem p11 : ∀ F, Try.prog.funcs[11]? = some F → F.params.size ≤ F.ntmps := fun F h => by rw [Try.func11] at h; cases h; exact of_decide_eq_true (by kernel_rfl)
theorem c12 : cFn Try.prog 12 = some sf12 := by kernel_rfl
theorem k12 : Zl Try.prog 12 = true := by kernel_rfl
theorem p12 : ∀ F, Try.prog.funcs[12]? = some F → F.params.size ≤ F.ntmps := fun F h => by rw [Try.func12] at h; cases h; exact of_decide_eq_true (by kernel_rfl)
theorem c13 : cFn Try.prog 13 = some sf13 := by kernel_rfl
theorem k13 : Zl Try.prog 13 = true := by kernel_rfl
theorem p13 : ∀ F, Try.prog.funcs[13]? = some F → F.params.size ≤ F.ntmps := fun F h => by rw [Try.func13] at h; cases h; exact of_decide_eq_true (by kernel_rfl)
theorem c14 : cFn Try.prog 14 = some sf14 := by kernel_rfl
theorem k14 : Zl Try.prog 14 = true := by kernel_rfl
theorem p14 : ∀ F, Try.prog.funcs[14]? = some F → F.params.size ≤ F.ntmps := fun F h => by rw [Try.func14] at h; cases h; exact of_decide_eq_true (by kernel_rfl)
theorem c15 : cFn Try.prog 15 = some sf15 := by kernel_rfl
theorem k15 : Zl Try.prog 15 = true := by kernel_rfl
theorem p15 : ∀ F, Try.prog.funcs[15]? = some F → F.params.size ≤ F.ntmps := fun F h => by rw [Try.func15] at h; cases h; exact of_decide_eq_true (by kernel_rfl)
theorem c16 : cFn Try.prog 16 = some sf16 := by kernel_rfl
theorem k16 : Zl Try.prog 16 = true := by kernel_rfl
theorem p16 : ∀ F, Try.prog.funcs[16]? = some F → F.params.size ≤ F.ntmps := fun F h => by rw [Try.func16] at h; cases h; exact of_decide_eq_true (by kernel_rfl)
theorem c17 : cFn Try.prog 17 = some sf17 := by kernel_rfl
theorem k17 : Zl Try.prog 17 = true := by kernel_rfl
theorem p17 : ∀ F, Try.prog.funcs[17]? = some F → F.params.size ≤ F.ntmps := fun F h => by rw [Try.func17] at h; cases h; exact of_decide_eq_true (by kernel_rfl)
theorem c18 : cFn Try.prog 18 = some sf18 := by kernel_rfl
theorem k18 : Zl Try.prog 18 = true := by kernel_rfl
theorem p18 : ∀ F, Try.prog.funcs[18]? = some F → F.params.size ≤ F.ntmps := fun F h => by rw [Try.func18] at h; cases h; exact of_decide_eq_true (by kernel_rfl)
theorem c19 : cFn Try.prog 19 = some sf19 := by kernel_rfl
theorem k19 : Zl Try.prog 19 = true := by kernel_rfl
theorem p19 : ∀ F, Try.prog.funcs[19]? = some F → F.params.size ≤ F.ntmps := fun F h => by rw [Try.func19] at h; cases h; exact of_decide_eq_true (by kernel_rfl)
theorem c20 : cFn Try.prog 20 = some sf20 := by kernel_rfl
theorem k20 : Zl Try.prog 20 = true := by kernel_rfl
theorem p20 : ∀ F, Try.prog.funcs[20]? = some F → F.params.size ≤ F.ntmps := fun F h => by rw [Try.func20] at h; cases h; exact of_decide_eq_true (by kernel_rfl)
theorem c22 : cFn Try.prog 22 = some sf22 := by kernel_rfl
theorem k22 : Zl Try.prog 22 = true := by kernel_rfl
theorem p22 : ∀ F, Try.prog.funcs[22]? = some F → F.params.size ≤ F.ntmps := fun F h => by rw [Try.func22] at h; cases h; exact of_decide_eq_true (by kernel_rfl)
theorem c23 : cFn Try.prog 23 = some sf23 := by kernel_rfl
theorem k23 : Zl Try.prog 23 = true := by kernel_rfl
theorem p23 : ∀ F, Try.prog.funcs[23]? = some F → F.params.size ≤ F.ntmps := fun F h => by rw [Try.func23] at h; cases h; exact of_decide_eq_true (by kernel_rfl)
theorem c24 : cFn Try.prog 24 = some sf24 := by kernel_rfl
theorem k24 : Zl Try.prog 24 = true := by kernel_rfl
theorem p24 : ∀ F, Try.prog.funcs[24]? = some F → F.params.size ≤ F.ntmps := fun F h => by rw [Try.func24] at h; cases h; exact of_decide_eq_true (by kernel_rfl)
theorem c25 : cFn Try.prog 25 = some sf25 := by kernel_rfl
theorem k25 : Zl Try.prog 25 = true := by kernel_rfl
theorem p25 : ∀ F, Try.prog.funcs[25]? = some F → F.params.size ≤ F.ntmps := fun F h => by rw [Try.func25] at h; cases h; exact of_decide_eq_true (by kernel_rfl)
theorem c26 : cFn Try.prog 26 = some sf26 := by kernel_rfl
theorem k26 : Zl Try.prog 26 = true := by kernel_rfl
theorem p26 : ∀ F, Try.prog.funcs[26]? = some F → F.params.size ≤ F.ntmps := fun F h => by rw [Try.func26] at h; cases h; exact of_decide_eq_true (by kernel_rfl)
theorem c27 : cFn Try.prog 27 = some sf27 := by kernel_rfl
theorem k27 : Zl Try.prog 27 = true := by kernel_rfl
theorem p27 : ∀ F, Try.prog.funcs[27]? = some F → F.params.size ≤ F.ntmps := fun F h => by rw [Try.func27] at h; cases h; exact of_decide_eq_true (by kernel_rfl)
theorem c28 : cFn Try.prog 28 = some sf28 := by kernel_rfl
theorem k28 : Zl Try.prog 28 = true := by kernel_rfl
theorem p28 : ∀ F, Try.prog.funcs[28]? = some F → F.params.size ≤ F.ntmps := fun F h => by rw [Try.func28] at h; cases h; exact of_decide_eq_true (by kernel_rfl)
theorem c29 : cFn Try.prog 29 = some sf29 := by kernel_rfl
theorem k29 : Zl Try.prog 29 = true := by kernel_rfl
theorem p29 : ∀ F, Try.prog.funcs[29]? = some F → F.params.size ≤ F.ntmps := fun F h => by rw [Try.func29] at h; cases h; exact of_decide_eq_true (by kernel_rfl)
theorem c30 : cFn Try.prog 30 = some sf30 := by kernel_rfl
theorem k30 : Zl Try.prog 30 = true := by kernel_rfl
theorem p30 : ∀ F, Try.prog.funcs[30]? = some F → F.params.size ≤ F.ntmps := fun F h => by rw [Try.func30] at h; cases h; exact of_decide_eq_true (by kernel_rfl)
theorem c31 : cFn Try.prog 31 = some sf31 := by kernel_rfl
theorem k31 : Zl Try.prog 31 = true := by kernel_rfl
theorem p31 : ∀ F, Try.prog.funcs[31]? = some F → F.params.size ≤ F.ntmps := fun F h => by rw [Try.func31] at h; cases h; exact of_decide_eq_true (by kernel_rfl)
theorem c32 : cFn Try.prog 32 = some sf32 := by kernel_rfl
theorem k32 : Zl Try.prog 32 = true := by kernel_rfl
theorem p32 : ∀ F, Try.prog.funcs[32]? = some F → F.params.size ≤ F.ntmps := fun F h => by rw [Try.func32] at h; cases h; exact of_decide_eq_true (by kernel_rfl)
theorem c33 : cFn Try.prog 33 = some sf33 := by kernel_rfl
theorem k33 : Zl Try.prog 33 = true := by kernel_rfl
theorem p33 : ∀ F, Try.prog.funcs[33]? = some F → F.params.size ≤ F.ntmps := fun F h => by rw [Try.func33] at h; cases h; exact of_decide_eq_true (by kernel_rfl)
theorem c34 : cFn Try.prog 34 = some sf34 := by kernel_rfl
theorem k34 : Zl Try.prog 34 = true := by kernel_rfl
theorem p34 : ∀ F, Try.prog.funcs[34]? = some F → F.params.size ≤ F.ntmps := fun F h => by rw [Try.func34] at h; cases h; exact of_decide_eq_true (by kernel_rfl)
theorem c35 : cFn Try.prog 35 = some sf35 := by kernel_rfl
theorem k35 : Zl Try.prog 35 = true := by kernel_rfl
theorem p35 : ∀ F, Try.prog.funcs[35]? = some F → F.params.size ≤ F.ntmps := fun F h => by rw [Try.func35] at h; cases h; exact of_decide_eq_true (by kernel_rfl)
theorem c36 : cFn Try.prog 36 = some sf36 := by kernel_rfl
theorem k36 : Zl Try.prog 36 = true := by kernel_rfl
theorem p36 : ∀ F, Try.prog.funcs[36]? = some F → F.params.size ≤ F.ntmps := fun F h => by rw [Try.func36] at h; cases h; exact of_decide_eq_true (by kernel_rfl)
theorem c37 : cFn Try.prog 37 = some sf37 := by kernel_rfl
theorem k37 : Zl Try.prog 37 = true := by kernel_rfl
theorem p37 : ∀ F, Try.prog.funcs[37]? = some F → F.params.size ≤ F.ntmps := fun F h => by rw [Try.func37] at h; cases h; exact of_decide_eq_true (by kernel_rfl)
theorem c38 : cFn Try.prog 38 = some sf38 := by kernel_rfl
theorem k38 : Zl Try.prog 38 = true := by kernel_rfl
theorem p38 : ∀ F, Try.prog.funcs[38]? = some F → F.params.size ≤ F.ntmps := fun F h => by rw [Try.func38] at h; cases h; exact of_decide_eq_true (by kernel_rfl)
theorem c39 : cFn Try.prog 39 = some sf39 := by kernel_rfl
theorem k39 : Zl Try.prog 39 = true := by kernel_rfl
theorem p39 : ∀ F, Try.prog.funcs[39]? = some F → F.params.size ≤ F.ntmps := fun F h => by rw [Try.func39] at h; cases h; exact of_decide_eq_true (by kernel_rfl)
theorem c40 : cFn Try.prog 40 = some sf40 := by kernel_rfl
theorem k40 : Zl Try.prog 40 = true := by kernel_rfl
theorem p40 : ∀ F, Try.prog.funcs[40]? = some F → F.params.size ≤ F.ntmps := fun F h => by rw [Try.func40] at h; cases h; exact of_decide_eq_true (by kernel_rfl)
theorem c41 : cFn Try.prog 41 = some sf41 := by kernel_rfl
theorem k41 : Zl Try.prog 41 = true := by kernel_rfl
theorem p41 : ∀ F, Try.prog.funcs[41]? = some F → F.params.size ≤ F.ntmps := fun F h => by rw [Try.func41] at h; cases h; exact of_decide_eq_true (by kernel_rfl)
theorem c42 : cFn Try.prog 42 = some sf42 := by kernel_rfl
theorem k42 : Zl Try.prog 42 = true := by kernel_rfl
theorem p42 : ∀ F, Try.prog.funcs[42]? = some F → F.params.size ≤ F.ntmps := fun F h => by rw [Try.func42] at h; cases h; exact of_decide_eq_true (by kernel_rfl)
theorem c43 : cFn Try.prog 43 = some sf43 := by kernel_rfl
theorem k43 : Zl Try.prog 43 = true := by kernel_rfl
theorem p43 : ∀ F, Try.prog.funcs[43]? = some F → F.params.size ≤ F.ntmps := fun F h => by rw [Try.func43] at h; cases h; exact of_decide_eq_true (by kernel_rfl)
theorem c44 : cFn Try.prog 44 = some sf44 := by kernel_rfl
theorem k44 : Zl Try.prog 44 = true := by kernel_rfl
theorem p44 : ∀ F, Try.prog.funcs[44]? = some F → F.params.size ≤ F.ntmps := fun F h => by rw [Try.func44] at h; cases h; exact of_decide_eq_true (by kernel_rfl)
def tab : FuncId → Option SFn := tabL [(4, sf4), (6, sf6), (8, sf8), (9, sf9), (10, sf10), (11, sf11), (12, sf12), (13, sf13), (14, sf14), (15, sf15), (16, sf16), (17, sf17), (18, sf18), (19, sf19), (20, sf20), (22, sf22), (23, sf23), (24, sf24), (25, sf25), (26, sf26), (27, sf27), (28, sf28), (29, sf29), (30, sf30), (31, sf31), (32, sf32), (33, sf33), (34, sf34), (35, sf35), (36, sf36), (37, sf37), (38, sf38), (39, sf39), (40, sf40), (41, sf41), (42, sf42), (43, sf43), (44, sf44)]
theorem tabOk : ZgV Try.prog tab :=
  Zm c4 k4 p4 (Zm c6 k6 p6 (Zm c8 k8 p8 (Zm c9 k9 p9 (Zm c10 k10 p10 (Zm c11 k11 p11 (Zm c12 k12 p12 (Zm c13 k13 p13 (Zm c14 k14 p14 (Zm c15 k15 p15 (Zm c16 k16 p16 (Zm c17 k17 p17 (Zm c18 k18 p18 (Zm c19 k19 p19 (Zm c20 k20 p20 (Zm c22 k22 p22 (Zm c23 k23 p23 (Zm c24 k24 p24 (Zm c25 k25 p25 (Zm c26 k26 p26 (Zm c27 k27 p27 (Zm c28 k28 p28 (Zm c29 k29 p29 (Zm c30 k30 p30 (Zm c31 k31 p31 (Zm c32 k32 p32 (Zm c33 k33 p33 (Zm c34 k34 p34 (Zm c35 k35 p35 (Zm c36 k36 p36 (Zm c37 k37 p37 (Zm c38 k38 p38 (Zm c39 k39 p39 (Zm c40 k40 p40 (Zm c41 k41 p41 (Zm c42 k42 p42 (Zm c43 k43 p43 (Zm c44 k44 p44 (ZkB _))))))))))))))))))))))))))))))))))))))
theorem t4 : tab 4 = some sf4 := rfl
theorem t6 : tab 6 = some sf6 := rfl
theorem t8 : tab 8 = some sf8 := rfl
theorem t9 : tab 9 = some sf9 := rfl
theorem t10 : tab 10 = some sf10 := rfl
theorem t11 : tab 11 = some sf11 := rfl
theorem t12 : tab 12 = some sf12 := rfl
theorem t13 : tab 13 = some sf13 := rfl
theorem t14 : tab 14 = some sf14 := rfl
theorem t15 : tab 15 = some sf15 := rfl
theorem t16 : tab 16 = some sf16 := rfl
theorem t17 : tab 17 = some sf17 := rfl
theorem t18 : tab 18 = some sf18 := rfl
theorem t19 : tab 19 = some sf19 := rfl
theorem t20 : tab 20 = some sf20 := rfl
theorem t22 : tab 22 = some sf22 := rfl
theorem t23 : tab 23 = some sf23 := rfl
theorem t24 : tab 24 = some sf24 := rfl
theorem t25 : tab 25 = some sf25 := rfl
theorem t26 : tab 26 = some sf26 := rfl
theorem t27 : tab 27 = some sf27 := rfl
theorem t28 : tab 28 = some sf28 := rfl
theorem t29 : tab 29 = some sf29 := rfl
theorem t30 : tab 30 = some sf30 := rfl
theorem t31 : tab 31 = some sf31 := rfl
theorem t32 : tab 32 = some sf32 := rfl
theorem t33 : tab 33 = some sf33 := rfl
theorem t34 : tab 34 = some sf34 := rfl
theorem t35 : tab 35 = some sf35 := rfl
theorem t36 : tab 36 = some sf36 := rfl
theorem t37 : tab 37 = some sf37 := rfl
theorem t38 : tab 38 = some sf38 := rfl
theorem t39 : tab 39 = some sf39 := rfl
theorem t40 : tab 40 = some sf40 := rfl
theorem t41 : tab 41 = some sf41 := rfl
theorem t42 : tab 42 = some sf42 := rfl
theorem t43 : tab 43 = some sf43 := rfl
theorem t44 : tab 44 = some sf44 := rfl
end Go.Proofs.Ytlbfafbhflblcaa
