/-
  The regions of functions with a range over a function, by program. Conditions: none.
-/
import Derived.Test.YtbamcklflcikoaaRows
import Derived.Test.YtbamcklflcikoaaSx2
import Derived.KernelRfl
namespace Go.Proofs.Ytbamcklflcikoaa
open Go Go.Sx
set_option maxRecDepth 100000
/-! (calliope/net.Net).pairs$1 -/
def vs18 : List Nat := [0, 1, 2, 4, 5, 6, 24]
noncomputable def o18_0 : Array Oper := funOps Try.f18 0
def q18_0 : Reg := ⟨[⟨(some 5), (.mv (.c (.int .i64 0))), none, 0⟩], [], 0, false, []⟩
theorem cq18_0 : cReg Try.prog 26 vs18 o18_0 false = some q18_0 := by kernel_rfl
noncomputable def o18_1 : Array Oper := funOps Try.f18 1
def q18_1 : Reg := ⟨[⟨(some 6), (.bin .lss (.int .i64) (.t 5) (.c (.int .i64 16))), none, 0⟩], [], 0, false, []⟩
theorem cq18_1 : cReg Try.prog 26 vs18 o18_1 false = some q18_1 := by kernel_rfl
noncomputable def o18_2 : Array Oper := funOps Try.f18 2
def q18_2 : Reg := ⟨[⟨(some 7), (.mv (.t 5)), none, 0⟩, ⟨(some 4), (.mv (.t 7)), none, 0⟩], [7], 0, false, []⟩
theorem cq18_2 : cReg Try.prog 26 vs18 o18_2 false = some q18_2 := by kernel_rfl
noncomputable def o18_3 : Array Oper := funOps Try.f18 3
def q18_3 : Reg := ⟨[⟨(some 8), (.mv (.t 4)), none, 0⟩, ⟨(some 9), (.load none (.t 1)), none, 0⟩, ⟨(some 10), (.bin .shl (.int .i64) (.c (.int .i64 1)) (.t 9)), none, 0⟩, ⟨(some 11), (.bin .and (.int .i64) (.t 8) (.t 10)), none, 0⟩, ⟨(some 12), (.bin .eql (.int .i64) (.t 11) (.c (.int .i64 0))), none, 0⟩, ⟨(some 13), (.mv (.t 12)), none, 0⟩, ⟨(some 14), (.mv (.t 0)), (some (13, true)), 0⟩, ⟨(some 15), (.mv (.t 4)), (some (13, true)), 0⟩, ⟨(some 16), (.mv (.t 4)), (some (13, true)), 0⟩, ⟨(some 17), (.load none (.t 1)), (some (13, true)), 0⟩, ⟨(some 18), (.callP 19 [(.t 16), (.t 17)]), (some (13, true)), 0⟩, ⟨(some 19), (.fieldAddr 0 (.t 2)), (some (13, true)), 0⟩, ⟨(some 20), (.idxA 8 2 (.t 19) (.t 18)), (some (13, true)), 0⟩, ⟨(some 21), (.load (some 2) (.t 20)), (some (13, true)), 0⟩, ⟨(some 22), (.callv (.t 14) [(.t 15), (.t 21)]), (some (13, true)), 0⟩, ⟨(some 23), (.un .not (.t 22)), (some (13, true)), 0⟩, ⟨(some 24), (.pick (.t 13) (.t 23) (.c (.bool false))), none, 0⟩], [8, 9, 10, 11, 12, 13, 14, 15, 16, 17, 18, 19, 20, 21, 22, 23], 0, true, []⟩
theorem cq18_3 : cReg Try.prog 26 vs18 o18_3 false = some q18_3 := by kernel_rfl
noncomputable def o18_4 : Array Oper := funOps Try.f18 4
def q18_4 : Reg := ⟨[⟨(some 25), (.bin .add (.int .i64) (.t 5) (.c (.int .i64 1))), none, 0⟩, ⟨(some 5), (.mv (.t 25)), none, 0⟩], [25], 0, false, []⟩
theorem cq18_4 : cReg Try.prog 26 vs18 o18_4 false = some q18_4 := by kernel_rfl
theorem body18 : Try.f18.body = some (.seq (.region 0 o18_0 false) (.block 0 (.loop (.seq (.region 1 o18_1 false) (.seq (.cond (.tmp 6) .skip (.exit 0)) (.seq (.block 1 (.seq (.region 2 o18_2 false) (.seq (.region 3 o18_3 false) (.cond (.tmp 24) .ret .skip)))) (.region 4 o18_4 false))))))) := by kernel_rfl
/-! (calliope/net.Net).Forward -/
def vs9 : List Nat := [0, 1, 2, 3, 4, 5, 6, 7, 8, 9, 10, 14, 15, 16]
noncomputable def o9_0 : Array Oper := funOps Try.f9 0
def q9_0 : Reg := ⟨[⟨(some 2), (.box (.t 0)), none, 0⟩, ⟨(some 3), (.box (.t 1)), none, 1⟩, ⟨(some 4), (.alloc (.ints .i64 [0, 0, 0, 0, 0, 0, 0, 0, 0, 0, 0, 0, 0, 0, 0, 0])), none, 2⟩], [], 3, true, []⟩
theorem cq9_0 : cReg Try.prog 38 vs9 o9_0 false = some q9_0 := by kernel_rfl
noncomputable def o9_1 : Array Oper := funOps Try.f9 1
def q9_1 : Reg := ⟨[⟨(some 9), (.mv (.c (.int .i64 0))), none, 0⟩], [], 0, false, []⟩
theorem cq9_1 : cReg Try.prog 38 vs9 o9_1 false = some q9_1 := by kernel_rfl
noncomputable def o9_2 : Array Oper := funOps Try.f9 2
def q9_2 : Reg := ⟨[⟨(some 10), (.bin .lss (.int .i64) (.t 9) (.c (.int .i64 4))), none, 0⟩], [], 0, false, []⟩
theorem cq9_2 : cReg Try.prog 38 vs9 o9_2 false = some q9_2 := by kernel_rfl
noncomputable def o9_3 : Array Oper := funOps Try.f9 3
def q9_3 : Reg := ⟨[⟨(some 11), (.mv (.t 9)), none, 0⟩, ⟨(some 5), (.alloc (.ints .i64 [0])), none, 0⟩, ⟨none, (.store 1 (.t 5) (.t 11)), none, 1⟩], [11], 1, true, []⟩
theorem cq9_3 : cReg Try.prog 38 vs9 o9_3 false = some q9_3 := by kernel_rfl
noncomputable def o9_4 : Array Oper := funOps Try.f9 4
def q9_4 : Reg := ⟨[⟨(some 12), (.load (some 16) (.t 2)), none, 0⟩, ⟨(some 13), (.load none (.t 5)), none, 0⟩, ⟨(some 14), (.call 14 [(.t 12), (.t 13)]), none, 0⟩], [12, 13], 0, true, []⟩
theorem cq9_4 : cReg Try.prog 38 vs9 o9_4 false = some q9_4 := by kernel_rfl
noncomputable def o9_5 : Array Oper := funOps Try.f9 5
def q9_5 : Reg := ⟨[⟨(some 6), (.mv (.t 15)), none, 0⟩], [], 0, false, []⟩
theorem cq9_5 : cReg Try.prog 38 vs9 o9_5 false = some q9_5 := by kernel_rfl
noncomputable def o9_6 : Array Oper := funOps Try.f9 6
def q9_6 : Reg := ⟨[⟨(some 7), (.alloc (.ints .i64 [0, 0])), none, 0⟩, ⟨none, (.store 2 (.t 7) (.t 16)), none, 1⟩], [], 1, true, []⟩
theorem cq9_6 : cReg Try.prog 38 vs9 o9_6 false = some q9_6 := by kernel_rfl
noncomputable def o9_7 : Array Oper := funOps Try.f9 7
def q9_7 : Reg := ⟨[⟨(some 17), (.mv (.t 6)), none, 0⟩, ⟨(some 18), (.load none (.t 5)), none, 0⟩, ⟨(some 19), (.bin .shl (.int .i64) (.c (.int .i64 1)) (.t 18)), none, 0⟩, ⟨(some 20), (.bin .or (.int .i64) (.t 17) (.t 19)), none, 0⟩, ⟨(some 8), (.mv (.t 20)), none, 0⟩], [17, 18, 19, 20], 0, false, []⟩
theorem cq9_7 : cReg Try.prog 38 vs9 o9_7 false = some q9_7 := by kernel_rfl
noncomputable def o9_8 : Array Oper := funOps Try.f9 8
def q9_8 : Reg := ⟨[⟨(some 22), (.mv (.t 6)), none, 0⟩, ⟨(some 23), (.mv (.t 8)), none, 0⟩, ⟨(some 24), (.mv (.t 6)), none, 0⟩, ⟨(some 25), (.idxA 16 1 (.t 3) (.t 24)), none, 0⟩, ⟨(some 26), (.load none (.t 25)), none, 0⟩, ⟨(some 27), (.mv (.t 8)), none, 0⟩, ⟨(some 28), (.idxA 16 1 (.t 3) (.t 27)), none, 0⟩, ⟨(some 29), (.load none (.t 28)), none, 0⟩, ⟨(some 30), (.load (some 2) (.t 7)), none, 0⟩, ⟨(some 31), (.callP 15 [(.t 26), (.t 29), (.t 30)]), none, 0⟩, ⟨(some 21), (.mv (.t 31)), none, 0⟩, ⟨(some 32), (.extract (.t 21) 0), none, 0⟩, ⟨(some 33), (.extract (.t 21) 1), none, 0⟩, ⟨(some 34), (.idxA 16 1 (.t 3) (.t 22)), none, 0⟩, ⟨none, (.store 1 (.t 34) (.t 32)), none, 0⟩, ⟨(some 35), (.idxA 16 1 (.t 3) (.t 23)), none, 0⟩, ⟨none, (.store 1 (.t 35) (.t 33)), none, 0⟩], [22, 23, 24, 25, 26, 27, 28, 29, 30, 31, 21, 32, 33, 34, 35], 0, false, []⟩
theorem cq9_8 : cReg Try.prog 38 vs9 o9_8 true = some q9_8 := by kernel_rfl
noncomputable def o9_9 : Array Oper := funOps Try.f9 9
def q9_9 : Reg := ⟨[⟨(some 36), (.bin .add (.int .i64) (.t 9) (.c (.int .i64 1))), none, 0⟩, ⟨(some 9), (.mv (.t 36)), none, 0⟩], [36], 0, false, []⟩
theorem cq9_9 : cReg Try.prog 38 vs9 o9_9 false = some q9_9 := by kernel_rfl
noncomputable def o9_10 : Array Oper := funOps Try.f9 10
def q9_10 : Reg := ⟨[⟨(some 37), (.load (some 16) (.t 3)), none, 0⟩, ⟨none, (.store 16 (.t 4) (.t 37)), none, 0⟩], [37], 0, false, []⟩
theorem cq9_10 : cReg Try.prog 38 vs9 o9_10 false = some q9_10 := by kernel_rfl
theorem body9 : Try.f9.body = some (.seq (.region 0 o9_0 false) (.seq (.seq (.region 1 o9_1 false) (.block 0 (.loop (.seq (.region 2 o9_2 false) (.seq (.cond (.tmp 10) .skip (.exit 0)) (.seq (.block 1 (.seq (.region 3 o9_3 false) (.seq (.region 4 o9_4 false) (.block 2 (.rangeFunc (.tmp 14) #[15, 16] (.seq (.region 5 o9_5 false) (.region 6 o9_6 false)) (.block 3 (.seq (.region 7 o9_7 false) (.region 8 o9_8 true)))))))) (.region 9 o9_9 false))))))) (.seq (.region 10 o9_10 false) .ret))) := by kernel_rfl
/-! (calliope/net.Net).Inverse -/
def vs12 : List Nat := [0, 1, 2, 3, 4, 5, 6, 7, 8, 10, 15, 16, 17, 37]
noncomputable def o12_0 : Array Oper := funOps Try.f12 0
def q12_0 : Reg := ⟨[⟨(some 2), (.box (.t 0)), none, 0⟩, ⟨(some 3), (.box (.t 1)), none, 1⟩, ⟨(some 4), (.alloc (.ints .i64 [0, 0, 0, 0, 0, 0, 0, 0, 0, 0, 0, 0, 0, 0, 0, 0])), none, 2⟩], [], 3, true, []⟩
theorem cq12_0 : cReg Try.prog 39 vs12 o12_0 false = some q12_0 := by kernel_rfl
noncomputable def o12_1 : Array Oper := funOps Try.f12 1
def q12_1 : Reg := ⟨[⟨(some 5), (.alloc (.ints .i64 [0])), none, 0⟩, ⟨none, (.store 1 (.t 5) (.c (.int .i64 3))), none, 1⟩], [], 1, true, []⟩
theorem cq12_1 : cReg Try.prog 39 vs12 o12_1 false = some q12_1 := by kernel_rfl
noncomputable def o12_2 : Array Oper := funOps Try.f12 2
def q12_2 : Reg := ⟨[⟨(some 9), (.load none (.t 5)), none, 0⟩, ⟨(some 10), (.bin .geq (.int .i64) (.t 9) (.c (.int .i64 0))), none, 0⟩], [9], 0, false, []⟩
theorem cq12_2 : cReg Try.prog 39 vs12 o12_2 false = some q12_2 := by kernel_rfl
noncomputable def o12_4 : Array Oper := funOps Try.f12 4
def q12_4 : Reg := ⟨[⟨(some 13), (.load (some 16) (.t 2)), none, 0⟩, ⟨(some 14), (.load none (.t 5)), none, 0⟩, ⟨(some 15), (.call 14 [(.t 13), (.t 14)]), none, 0⟩], [13, 14], 0, true, []⟩
theorem cq12_4 : cReg Try.prog 39 vs12 o12_4 false = some q12_4 := by kernel_rfl
noncomputable def o12_5 : Array Oper := funOps Try.f12 5
def q12_5 : Reg := ⟨[⟨(some 6), (.mv (.t 16)), none, 0⟩], [], 0, false, []⟩
theorem cq12_5 : cReg Try.prog 39 vs12 o12_5 false = some q12_5 := by kernel_rfl
noncomputable def o12_6 : Array Oper := funOps Try.f12 6
def q12_6 : Reg := ⟨[⟨(some 7), (.alloc (.ints .i64 [0, 0])), none, 0⟩, ⟨none, (.store 2 (.t 7) (.t 17)), none, 1⟩], [], 1, true, []⟩
theorem cq12_6 : cReg Try.prog 39 vs12 o12_6 false = some q12_6 := by kernel_rfl
noncomputable def o12_7 : Array Oper := funOps Try.f12 7
def q12_7 : Reg := ⟨[⟨(some 18), (.mv (.t 6)), none, 0⟩, ⟨(some 19), (.load none (.t 5)), none, 0⟩, ⟨(some 20), (.bin .shl (.int .i64) (.c (.int .i64 1)) (.t 19)), none, 0⟩, ⟨(some 21), (.bin .or (.int .i64) (.t 18) (.t 20)), none, 0⟩, ⟨(some 8), (.mv (.t 21)), none, 0⟩], [18, 19, 20, 21], 0, false, []⟩
theorem cq12_7 : cReg Try.prog 39 vs12 o12_7 false = some q12_7 := by kernel_rfl
noncomputable def o12_8 : Array Oper := funOps Try.f12 8
def q12_8 : Reg := ⟨[⟨(some 23), (.mv (.t 6)), none, 0⟩, ⟨(some 24), (.mv (.t 8)), none, 0⟩, ⟨(some 25), (.mv (.t 6)), none, 0⟩, ⟨(some 26), (.idxA 16 1 (.t 3) (.t 25)), none, 0⟩, ⟨(some 27), (.load none (.t 26)), none, 0⟩, ⟨(some 28), (.mv (.t 8)), none, 0⟩, ⟨(some 29), (.idxA 16 1 (.t 3) (.t 28)), none, 0⟩, ⟨(some 30), (.load none (.t 29)), none, 0⟩, ⟨(some 31), (.load (some 2) (.t 7)), none, 0⟩, ⟨(some 32), (.callP 17 [(.t 27), (.t 30), (.t 31)]), none, 0⟩, ⟨(some 22), (.mv (.t 32)), none, 0⟩, ⟨(some 33), (.extract (.t 22) 0), none, 0⟩, ⟨(some 34), (.extract (.t 22) 1), none, 0⟩, ⟨(some 35), (.idxA 16 1 (.t 3) (.t 23)), none, 0⟩, ⟨none, (.store 1 (.t 35) (.t 33)), none, 0⟩, ⟨(some 36), (.idxA 16 1 (.t 3) (.t 24)), none, 0⟩, ⟨none, (.store 1 (.t 36) (.t 34)), none, 0⟩], [23, 24, 25, 26, 27, 28, 29, 30, 31, 32, 22, 33, 34, 35, 36], 0, false, []⟩
theorem cq12_8 : cReg Try.prog 39 vs12 o12_8 true = some q12_8 := by kernel_rfl
noncomputable def o12_9 : Array Oper := funOps Try.f12 9
def q12_9 : Reg := ⟨[⟨(some 37), (.load none (.t 5)), none, 0⟩], [], 0, false, []⟩
theorem cq12_9 : cReg Try.prog 39 vs12 o12_9 false = some q12_9 := by kernel_rfl
noncomputable def o12_10 : Array Oper := funOps Try.f12 10
def q12_10 : Reg := ⟨[⟨(some 5), (.alloc (.ints .i64 [0])), none, 0⟩, ⟨none, (.store 1 (.t 5) (.t 37)), none, 1⟩], [], 1, true, []⟩
theorem cq12_10 : cReg Try.prog 39 vs12 o12_10 false = some q12_10 := by kernel_rfl
noncomputable def o12_3 : Array Oper := funOps Try.f12 3
def q12_3 : Reg := ⟨[⟨(some 11), (.load none (.t 5)), none, 0⟩, ⟨(some 12), (.bin .sub (.int .i64) (.t 11) (.c (.int .i64 1))), none, 0⟩, ⟨none, (.store 1 (.t 5) (.t 12)), none, 0⟩], [11, 12], 0, false, []⟩
theorem cq12_3 : cReg Try.prog 39 vs12 o12_3 false = some q12_3 := by kernel_rfl
noncomputable def o12_11 : Array Oper := funOps Try.f12 11
def q12_11 : Reg := ⟨[⟨(some 38), (.load (some 16) (.t 3)), none, 0⟩, ⟨none, (.store 16 (.t 4) (.t 38)), none, 0⟩], [38], 0, false, []⟩
theorem cq12_11 : cReg Try.prog 39 vs12 o12_11 false = some q12_11 := by kernel_rfl
theorem body12 : Try.f12.body = some (.seq (.region 0 o12_0 false) (.seq (.seq (.region 1 o12_1 false) (.block 0 (.loop (.seq (.seq (.region 2 o12_2 false) (.cond (.tmp 10) .skip (.exit 0))) (.seq (.block 1 (.seq (.region 4 o12_4 false) (.block 2 (.rangeFunc (.tmp 15) #[16, 17] (.seq (.region 5 o12_5 false) (.region 6 o12_6 false)) (.block 3 (.seq (.region 7 o12_7 false) (.region 8 o12_8 true))))))) (.seq (.seq (.region 9 o12_9 false) (.region 10 o12_10 false)) (.region 3 o12_3 false))))))) (.seq (.region 11 o12_11 false) .ret))) := by kernel_rfl
namespace LB
/-! (calliope/net.Net).pairs -/
def r14_0 : Reg := ⟨[⟨(some 2), (.box (.t 0)), none, 0⟩, ⟨(some 3), (.box (.t 1)), none, 1⟩, ⟨(some 4), (.mv (.c .nilf)), none, 2⟩], [], 2, true, []⟩
def r14_1 : Reg := ⟨[⟨(some 5), (.mkfn 18 [] [(.t 3), (.t 2)]), none, 0⟩, ⟨(some 4), (.mv (.t 5)), none, 0⟩], [5], 0, false, []⟩
def sf14 : SFn := { np := 2, vars := [0, 1, 2, 3, 4], body := (.seq (.reg r14_0) (.seq (.reg r14_1) (.seq (.kill [0, 1, 2, 3]) .ret))), res := [(.tmp 4)] }
theorem c14 : cFn Try.prog 14 = some sf14 := by kernel_rfl
theorem k14 : callable Try.prog 14 = true := by kernel_rfl
theorem p14 : ∀ F, Try.prog.funcs[14]? = some F → F.params.size ≤ F.ntmps := fun F h => by rw [Try.func14] at h; cases h; exact of_decide_eq_true (by kernel_rfl)
/-! calliope/net.turn -/
def r19_0 : Reg := ⟨[⟨(some 4), (.mv (.c (.int .i64 0))), none, 0⟩], [], 0, false, []⟩
def r19_1 : Reg := ⟨[⟨(some 5), (.mv (.t 0)), none, 0⟩, ⟨(some 6), (.bin .mul (.int .i64) (.c (.int .i64 3)) (.t 5)), none, 0⟩, ⟨(some 7), (.mv (.t 1)), none, 0⟩, ⟨(some 8), (.bin .mul (.int .i64) (.c (.int .i64 5)) (.t 7)), none, 0⟩, ⟨(some 9), (.bin .add (.int .i64) (.t 6) (.t 8)), none, 0⟩, ⟨(some 10), (.bin .rem (.int .i64) (.t 9) (.c (.int .i64 8))), none, 0⟩, ⟨(some 4), (.mv (.t 10)), none, 0⟩], [5, 6, 7, 8, 9, 10], 0, false, []⟩
def sf19 : SFn := { np := 2, vars := [0, 1, 4], body := (.seq (.reg r19_0) (.seq (.reg r19_1) (.seq (.kill [0, 1]) .ret))), res := [(.tmp 4)] }
theorem c19 : cFn Try.prog 19 = some sf19 := by kernel_rfl
theorem k19 : callable Try.prog 19 = true := by kernel_rfl
theorem p19 : ∀ F, Try.prog.funcs[19]? = some F → F.params.size ≤ F.ntmps := fun F h => by rw [Try.func19] at h; cases h; exact of_decide_eq_true (by kernel_rfl)
def tab : FuncId → Option SFn := tabL [(14, sf14), (19, sf19)]
theorem tabOk : TabOk Try.prog tab :=
  tabOk_cons c14 k14 p14 (tabOk_cons c19 k19 p19 (tabOk_nil _))
end LB
-- NUM 18 (calliope/net.Net).pairs$1
-- NUM 9 (calliope/net.Net).Forward
-- NUM 12 (calliope/net.Net).Inverse
-- NUM 14 (calliope/net.Net).pairs
-- NUM 19 calliope/net.turn
-- NUM 15 calliope/lift.Turn
-- NUM 17 calliope/lift.Back
end Go.Proofs.Ytbamcklflcikoaa
