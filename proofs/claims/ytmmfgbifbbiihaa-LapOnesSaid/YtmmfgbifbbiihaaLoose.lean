/-
  The regions of functions with a range over a function, by program. Conditions: none.
-/
import Derived.Test.YtmmfgbifbbiihaaRows
import Derived.Test.YtmmfgbifbbiihaaSx2
import Derived.KernelRfl
namespace Go.Proofs.Ytmmfgbifbbiihaa
open Go Go.Sx
set_option maxRecDepth 100000
/-! (calliope/net.Net).pairs$1 -/
def vs40 : List Nat := [0, 1, 2, 4, 5, 6, 24]
noncomputable def o40_0 : Array Oper := funOps Try.f40 0
def q40_0 : Reg := ⟨[⟨(some 5), (.mv (.c (.int .i64 0))), none, 0⟩], [], 0, false, []⟩
theorem cq40_0 : cReg Try.prog 26 vs40 o40_0 false = some q40_0 := by kernel_rfl
noncomputable def o40_1 : Array Oper := funOps Try.f40 1
def q40_1 : Reg := ⟨[⟨(some 6), (.bin .lss (.int .i64) (.t 5) (.c (.int .i64 16))), none, 0⟩], [], 0, false, []⟩
theorem cq40_1 : cReg Try.prog 26 vs40 o40_1 false = some q40_1 := by kernel_rfl
noncomputable def o40_2 : Array Oper := funOps Try.f40 2
def q40_2 : Reg := ⟨[⟨(some 7), (.mv (.t 5)), none, 0⟩, ⟨(some 4), (.mv (.t 7)), none, 0⟩], [7], 0, false, []⟩
theorem cq40_2 : cReg Try.prog 26 vs40 o40_2 false = some q40_2 := by kernel_rfl
noncomputable def o40_3 : Array Oper := funOps Try.f40 3
def q40_3 : Reg := ⟨[⟨(some 8), (.mv (.t 4)), none, 0⟩, ⟨(some 9), (.load none (.t 1)), none, 0⟩, ⟨(some 10), (.bin .shl (.int .i64) (.c (.int .i64 1)) (.t 9)), none, 0⟩, ⟨(some 11), (.bin .and (.int .i64) (.t 8) (.t 10)), none, 0⟩, ⟨(some 12), (.bin .eql (.int .i64) (.t 11) (.c (.int .i64 0))), none, 0⟩, ⟨(some 13), (.mv (.t 12)), none, 0⟩, ⟨(some 14), (.mv (.t 0)), (some (13, true)), 0⟩, ⟨(some 15), (.mv (.t 4)), (some (13, true)), 0⟩, ⟨(some 16), (.mv (.t 4)), (some (13, true)), 0⟩, ⟨(some 17), (.load none (.t 1)), (some (13, true)), 0⟩, ⟨(some 18), (.callP 41 [(.t 16), (.t 17)]), (some (13, true)), 0⟩, ⟨(some 19), (.fieldAddr 0 (.t 2)), (some (13, true)), 0⟩, ⟨(some 20), (.idxA 8 2 (.t 19) (.t 18)), (some (13, true)), 0⟩, ⟨(some 21), (.load (some 2) (.t 20)), (some (13, true)), 0⟩, ⟨(some 22), (.callv (.t 14) [(.t 15), (.t 21)]), (some (13, true)), 0⟩, ⟨(some 23), (.un .not (.t 22)), (some (13, true)), 0⟩, ⟨(some 24), (.pick (.t 13) (.t 23) (.c (.bool false))), none, 0⟩], [8, 9, 10, 11, 12, 13, 14, 15, 16, 17, 18, 19, 20, 21, 22, 23], 0, true, []⟩
theorem cq40_3 : cReg Try.prog 26 vs40 o40_3 false = some q40_3 := by kernel_rfl
noncomputable def o40_4 : Array Oper := funOps Try.f40 4
def q40_4 : Reg := ⟨[⟨(some 25), (.bin .add (.int .i64) (.t 5) (.c (.int .i64 1))), none, 0⟩, ⟨(some 5), (.mv (.t 25)), none, 0⟩], [25], 0, false, []⟩
theorem cq40_4 : cReg Try.prog 26 vs40 o40_4 false = some q40_4 := by kernel_rfl
theorem body40 : Try.f40.body = some (.seq (.region 0 o40_0 false) (.block 0 (.loop (.seq (.region 1 o40_1 false) (.seq (.cond (.tmp 6) .skip (.exit 0)) (.seq (.block 1 (.seq (.region 2 o40_2 false) (.seq (.region 3 o40_3 false) (.cond (.tmp 24) .ret .skip)))) (.region 4 o40_4 false))))))) := by kernel_rfl
/-! (calliope/net.Net).Forward -/
def vs17 : List Nat := [0, 1, 2, 3, 4, 5, 6, 7, 8, 9, 10, 14, 15, 16]
noncomputable def o17_0 : Array Oper := funOps Try.f17 0
def q17_0 : Reg := ⟨[⟨(some 2), (.box (.t 0)), none, 0⟩, ⟨(some 3), (.box (.t 1)), none, 1⟩, ⟨(some 4), (.alloc (.ints .i64 [0, 0, 0, 0, 0, 0, 0, 0, 0, 0, 0, 0, 0, 0, 0, 0])), none, 2⟩], [], 3, true, []⟩
theorem cq17_0 : cReg Try.prog 38 vs17 o17_0 false = some q17_0 := by kernel_rfl
noncomputable def o17_1 : Array Oper := funOps Try.f17 1
def q17_1 : Reg := ⟨[⟨(some 9), (.mv (.c (.int .i64 0))), none, 0⟩], [], 0, false, []⟩
theorem cq17_1 : cReg Try.prog 38 vs17 o17_1 false = some q17_1 := by kernel_rfl
noncomputable def o17_2 : Array Oper := funOps Try.f17 2
def q17_2 : Reg := ⟨[⟨(some 10), (.bin .lss (.int .i64) (.t 9) (.c (.int .i64 4))), none, 0⟩], [], 0, false, []⟩
theorem cq17_2 : cReg Try.prog 38 vs17 o17_2 false = some q17_2 := by kernel_rfl
noncomputable def o17_3 : Array Oper := funOps Try.f17 3
def q17_3 : Reg := ⟨[⟨(some 11), (.mv (.t 9)), none, 0⟩, ⟨(some 5), (.alloc (.ints .i64 [0])), none, 0⟩, ⟨none, (.store 1 (.t 5) (.t 11)), none, 1⟩], [11], 1, true, []⟩
theorem cq17_3 : cReg Try.prog 38 vs17 o17_3 false = some q17_3 := by kernel_rfl
noncomputable def o17_4 : Array Oper := funOps Try.f17 4
def q17_4 : Reg := ⟨[⟨(some 12), (.load (some 16) (.t 2)), none, 0⟩, ⟨(some 13), (.load none (.t 5)), none, 0⟩, ⟨(some 14), (.call 31 [(.t 12), (.t 13)]), none, 0⟩], [12, 13], 0, true, []⟩
theorem cq17_4 : cReg Try.prog 38 vs17 o17_4 false = some q17_4 := by kernel_rfl
noncomputable def o17_5 : Array Oper := funOps Try.f17 5
def q17_5 : Reg := ⟨[⟨(some 6), (.mv (.t 15)), none, 0⟩], [], 0, false, []⟩
theorem cq17_5 : cReg Try.prog 38 vs17 o17_5 false = some q17_5 := by kernel_rfl
noncomputable def o17_6 : Array Oper := funOps Try.f17 6
def q17_6 : Reg := ⟨[⟨(some 7), (.alloc (.ints .i64 [0, 0])), none, 0⟩, ⟨none, (.store 2 (.t 7) (.t 16)), none, 1⟩], [], 1, true, []⟩
theorem cq17_6 : cReg Try.prog 38 vs17 o17_6 false = some q17_6 := by kernel_rfl
noncomputable def o17_7 : Array Oper := funOps Try.f17 7
def q17_7 : Reg := ⟨[⟨(some 17), (.mv (.t 6)), none, 0⟩, ⟨(some 18), (.load none (.t 5)), none, 0⟩, ⟨(some 19), (.bin .shl (.int .i64) (.c (.int .i64 1)) (.t 18)), none, 0⟩, ⟨(some 20), (.bin .or (.int .i64) (.t 17) (.t 19)), none, 0⟩, ⟨(some 8), (.mv (.t 20)), none, 0⟩], [17, 18, 19, 20], 0, false, []⟩
theorem cq17_7 : cReg Try.prog 38 vs17 o17_7 false = some q17_7 := by kernel_rfl
noncomputable def o17_8 : Array Oper := funOps Try.f17 8
def q17_8 : Reg := ⟨[⟨(some 22), (.mv (.t 6)), none, 0⟩, ⟨(some 23), (.mv (.t 8)), none, 0⟩, ⟨(some 24), (.mv (.t 6)), none, 0⟩, ⟨(some 25), (.idxA 16 1 (.t 3) (.t 24)), none, 0⟩, ⟨(some 26), (.load none (.t 25)), none, 0⟩, ⟨(some 27), (.mv (.t 8)), none, 0⟩, ⟨(some 28), (.idxA 16 1 (.t 3) (.t 27)), none, 0⟩, ⟨(some 29), (.load none (.t 28)), none, 0⟩, ⟨(some 30), (.load (some 2) (.t 7)), none, 0⟩, ⟨(some 31), (.callP 28 [(.t 26), (.t 29), (.t 30)]), none, 0⟩, ⟨(some 21), (.mv (.t 31)), none, 0⟩, ⟨(some 32), (.extract (.t 21) 0), none, 0⟩, ⟨(some 33), (.extract (.t 21) 1), none, 0⟩, ⟨(some 34), (.idxA 16 1 (.t 3) (.t 22)), none, 0⟩, ⟨none, (.store 1 (.t 34) (.t 32)), none, 0⟩, ⟨(some 35), (.idxA 16 1 (.t 3) (.t 23)), none, 0⟩, ⟨none, (.store 1 (.t 35) (.t 33)), none, 0⟩], [22, 23, 24, 25, 26, 27, 28, 29, 30, 31, 21, 32, 33, 34, 35], 0, false, []⟩
theorem cq17_8 : cReg Try.prog 38 vs17 o17_8 true = some q17_8 := by kernel_rfl
noncomputable def o17_9 : Array Oper := funOps Try.f17 9
def q17_9 : Reg := ⟨[⟨(some 36), (.bin .add (.int .i64) (.t 9) (.c (.int .i64 1))), none, 0⟩, ⟨(some 9), (.mv (.t 36)), none, 0⟩], [36], 0, false, []⟩
theorem cq17_9 : cReg Try.prog 38 vs17 o17_9 false = some q17_9 := by kernel_rfl
noncomputable def o17_10 : Array Oper := funOps Try.f17 10
def q17_10 : Reg := ⟨[⟨(some 37), (.load (some 16) (.t 3)), none, 0⟩, ⟨none, (.store 16 (.t 4) (.t 37)), none, 0⟩], [37], 0, false, []⟩
theorem cq17_10 : cReg Try.prog 38 vs17 o17_10 false = some q17_10 := by kernel_rfl
theorem body17 : Try.f17.body = some (.seq (.region 0 o17_0 false) (.seq (.seq (.region 1 o17_1 false) (.block 0 (.loop (.seq (.region 2 o17_2 false) (.seq (.cond (.tmp 10) .skip (.exit 0)) (.seq (.block 1 (.seq (.region 3 o17_3 false) (.seq (.region 4 o17_4 false) (.block 2 (.rangeFunc (.tmp 14) #[15, 16] (.seq (.region 5 o17_5 false) (.region 6 o17_6 false)) (.block 3 (.seq (.region 7 o17_7 false) (.region 8 o17_8 true)))))))) (.region 9 o17_9 false))))))) (.seq (.region 10 o17_10 false) .ret))) := by kernel_rfl
/-! (calliope/net.Net).Inverse -/
def vs25 : List Nat := [0, 1, 2, 3, 4, 5, 6, 7, 8, 10, 15, 16, 17, 37]
noncomputable def o25_0 : Array Oper := funOps Try.f25 0
def q25_0 : Reg := ⟨[⟨(some 2), (.box (.t 0)), none, 0⟩, ⟨(some 3), (.box (.t 1)), none, 1⟩, ⟨(some 4), (.alloc (.ints .i64 [0, 0, 0, 0, 0, 0, 0, 0, 0, 0, 0, 0, 0, 0, 0, 0])), none, 2⟩], [], 3, true, []⟩
theorem cq25_0 : cReg Try.prog 39 vs25 o25_0 false = some q25_0 := by kernel_rfl
noncomputable def o25_1 : Array Oper := funOps Try.f25 1
def q25_1 : Reg := ⟨[⟨(some 5), (.alloc (.ints .i64 [0])), none, 0⟩, ⟨none, (.store 1 (.t 5) (.c (.int .i64 3))), none, 1⟩], [], 1, true, []⟩
theorem cq25_1 : cReg Try.prog 39 vs25 o25_1 false = some q25_1 := by kernel_rfl
noncomputable def o25_2 : Array Oper := funOps Try.f25 2
def q25_2 : Reg := ⟨[⟨(some 9), (.load none (.t 5)), none, 0⟩, ⟨(some 10), (.bin .geq (.int .i64) (.t 9) (.c (.int .i64 0))), none, 0⟩], [9], 0, false, []⟩
theorem cq25_2 : cReg Try.prog 39 vs25 o25_2 false = some q25_2 := by kernel_rfl
noncomputable def o25_4 : Array Oper := funOps Try.f25 4
def q25_4 : Reg := ⟨[⟨(some 13), (.load (some 16) (.t 2)), none, 0⟩, ⟨(some 14), (.load none (.t 5)), none, 0⟩, ⟨(some 15), (.call 31 [(.t 13), (.t 14)]), none, 0⟩], [13, 14], 0, true, []⟩
theorem cq25_4 : cReg Try.prog 39 vs25 o25_4 false = some q25_4 := by kernel_rfl
noncomputable def o25_5 : Array Oper := funOps Try.f25 5
def q25_5 : Reg := ⟨[⟨(some 6), (.mv (.t 16)), none, 0⟩], [], 0, false, []⟩
theorem cq25_5 : cReg Try.prog 39 vs25 o25_5 false = some q25_5 := by kernel_rfl
noncomputable def o25_6 : Array Oper := funOps Try.f25 6
def q25_6 : Reg := ⟨[⟨(some 7), (.alloc (.ints .i64 [0, 0])), none, 0⟩, ⟨none, (.store 2 (.t 7) (.t 17)), none, 1⟩], [], 1, true, []⟩
theorem cq25_6 : cReg Try.prog 39 vs25 o25_6 false = some q25_6 := by kernel_rfl
noncomputable def o25_7 : Array Oper := funOps Try.f25 7
def q25_7 : Reg := ⟨[⟨(some 18), (.mv (.t 6)), none, 0⟩, ⟨(some 19), (.load none (.t 5)), none, 0⟩, ⟨(some 20), (.bin .shl (.int .i64) (.c (.int .i64 1)) (.t 19)), none, 0⟩, ⟨(some 21), (.bin .or (.int .i64) (.t 18) (.t 20)), none, 0⟩, ⟨(some 8), (.mv (.t 21)), none, 0⟩], [18, 19, 20, 21], 0, false, []⟩
theorem cq25_7 : cReg Try.prog 39 vs25 o25_7 false = some q25_7 := by kernel_rfl
noncomputable def o25_8 : Array Oper := funOps Try.f25 8
def q25_8 : Reg := ⟨[⟨(some 23), (.mv (.t 6)), none, 0⟩, ⟨(some 24), (.mv (.t 8)), none, 0⟩, ⟨(some 25), (.mv (.t 6)), none, 0⟩, ⟨(some 26), (.idxA 16 1 (.t 3) (.t 25)), none, 0⟩, ⟨(some 27), (.load none (.t 26)), none, 0⟩, ⟨(some 28), (.mv (.t 8)), none, 0⟩, ⟨(some 29), (.idxA 16 1 (.t 3) (.t 28)), none, 0⟩, ⟨(some 30), (.load none (.t 29)), none, 0⟩, ⟨(some 31), (.load (some 2) (.t 7)), none, 0⟩, ⟨(some 32), (.callP 36 [(.t 27), (.t 30), (.t 31)]), none, 0⟩, ⟨(some 22), (.mv (.t 32)), none, 0⟩, ⟨(some 33), (.extract (.t 22) 0), none, 0⟩, ⟨(some 34), (.extract (.t 22) 1), none, 0⟩, ⟨(some 35), (.idxA 16 1 (.t 3) (.t 23)), none, 0⟩, ⟨none, (.store 1 (.t 35) (.t 33)), none, 0⟩, ⟨(some 36), (.idxA 16 1 (.t 3) (.t 24)), none, 0⟩, ⟨none, (.store 1 (.t 36) (.t 34)), none, 0⟩], [23, 24, 25, 26, 27, 28, 29, 30, 31, 32, 22, 33, 34, 35, 36], 0, false, []⟩
theorem cq25_8 : cReg Try.prog 39 vs25 o25_8 true = some q25_8 := by kernel_rfl
noncomputable def o25_9 : Array Oper := funOps Try.f25 9
def q25_9 : Reg := ⟨[⟨(some 37), (.load none (.t 5)), none, 0⟩], [], 0, false, []⟩
theorem cq25_9 : cReg Try.prog 39 vs25 o25_9 false = some q25_9 := by kernel_rfl
noncomputable def o25_10 : Array Oper := funOps Try.f25 10
def q25_10 : Reg := ⟨[⟨(some 5), (.alloc (.ints .i64 [0])), none, 0⟩, ⟨none, (.store 1 (.t 5) (.t 37)), none, 1⟩], [], 1, true, []⟩
theorem cq25_10 : cReg Try.prog 39 vs25 o25_10 false = some q25_10 := by kernel_rfl
noncomputable def o25_3 : Array Oper := funOps Try.f25 3
def q25_3 : Reg := ⟨[⟨(some 11), (.load none (.t 5)), none, 0⟩, ⟨(some 12), (.bin .sub (.int .i64) (.t 11) (.c (.int .i64 1))), none, 0⟩, ⟨none, (.store 1 (.t 5) (.t 12)), none, 0⟩], [11, 12], 0, false, []⟩
theorem cq25_3 : cReg Try.prog 39 vs25 o25_3 false = some q25_3 := by kernel_rfl
noncomputable def o25_11 : Array Oper := funOps Try.f25 11
def q25_11 : Reg := ⟨[⟨(some 38), (.load (some 16) (.t 3)), none, 0⟩, ⟨none, (.store 16 (.t 4) (.t 38)), none, 0⟩], [38], 0, false, []⟩
theorem cq25_11 : cReg Try.prog 39 vs25 o25_11 false = some q25_11 := by kernel_rfl
theorem body25 : Try.f25.body = some (.seq (.region 0 o25_0 false) (.seq (.seq (.region 1 o25_1 false) (.block 0 (.loop (.seq (.seq (.region 2 o25_2 false) (.cond (.tmp 10) .skip (.exit 0))) (.seq (.block 1 (.seq (.region 4 o25_4 false) (.block 2 (.rangeFunc (.tmp 15) #[16, 17] (.seq (.region 5 o25_5 false) (.region 6 o25_6 false)) (.block 3 (.seq (.region 7 o25_7 false) (.region 8 o25_8 true))))))) (.seq (.seq (.region 9 o25_9 false) (.region 10 o25_10 false)) (.region 3 o25_3 false))))))) (.seq (.region 11 o25_11 false) .ret))) := by kernel_rfl
namespace LB
/-! (calliope/net.Net).pairs -/
def r31_0 : Reg := ⟨[⟨(some 2), (.box (.t 0)), none, 0⟩, ⟨(some 3), (.box (.t 1)), none, 1⟩, ⟨(some 4), (.mv (.c .nilf)), none, 2⟩], [], 2, true, []⟩
def r31_1 : Reg := ⟨[⟨(some 5), (.mkfn 40 [] [(.t 3), (.t 2)]), none, 0⟩, ⟨(some 4), (.mv (.t 5)), none, 0⟩], [5], 0, false, []⟩
def sf31 : SFn := { np := 2, vars := [0, 1, 2, 3, 4], body := (.seq (.reg r31_0) (.seq (.reg r31_1) (.seq (.kill [0, 1, 2, 3]) .ret))), res := [(.tmp 4)] }
theorem c31 : cFn Try.prog 31 = some sf31 := by kernel_rfl
theorem k31 : callable Try.prog 31 = true := by kernel_rfl
theorem p31 : ∀ F, Try.prog.funcs[31]? = some F → F.params.size ≤ F.ntmps := fun F h => by rw [Try.func31] at h; cases h; exact of_decide_eq_true (by kernel_rfl)
/-! calliope/net.turn -/
def r41_0 : Reg := ⟨[⟨(some 4), (.mv (.c (.int .i64 0))), none, 0⟩], [], 0, false, []⟩
def r41_1 : Reg := ⟨[⟨(some 5), (.mv (.t 0)), none, 0⟩, ⟨(some 6), (.bin .mul (.int .i64) (.c (.int .i64 3)) (.t 5)), none, 0⟩, ⟨(some 7), (.mv (.t 1)), none, 0⟩, ⟨(some 8), (.bin .mul (.int .i64) (.c (.int .i64 5)) (.t 7)), none, 0⟩, ⟨(some 9), (.bin .add (.int .i64) (.t 6) (.t 8)), none, 0⟩, ⟨(some 10), (.bin .rem (.int .i64) (.t 9) (.c (.int .i64 8))), none, 0⟩, ⟨(some 4), (.mv (.t 10)), none, 0⟩], [5, 6, 7, 8, 9, 10], 0, false, []⟩
def sf41 : SFn := { np := 2, vars := [0, 1, 4], body := (.seq (.reg r41_0) (.seq (.reg r41_1) (.seq (.kill [0, 1]) .ret))), res := [(.tmp 4)] }
theorem c41 : cFn Try.prog 41 = some sf41 := by kernel_rfl
theorem k41 : callable Try.prog 41 = true := by kernel_rfl
theorem p41 : ∀ F, Try.prog.funcs[41]? = some F → F.params.size ≤ F.ntmps := fun F h => by rw [Try.func41] at h; cases h; exact of_decide_eq_true (by kernel_rfl)
def tab : FuncId → Option SFn := tabL [(31, sf31), (41, sf41)]
theorem tabOk : TabOk Try.prog tab :=
  tabOk_cons c31 k31 p31 (tabOk_cons c41 k41 p41 (tabOk_nil _))
end LB
-- NUM 40 (calliope/net.Net).pairs$1
-- NUM 17 (calliope/net.Net).Forward
-- NUM 25 (calliope/net.Net).Inverse
-- NUM 31 (calliope/net.Net).pairs
-- NUM 41 calliope/net.turn
-- NUM 28 calliope/lift.Turn
-- NUM 36 calliope/lift.Back
end Go.Proofs.Ytmmfgbifbbiihaa
