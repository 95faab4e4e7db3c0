/-
  The steps', taps' and notes' laws, by the abstract machine. Conditions: none.
-/
import Derived.Test.YtpdalmlkicenaaaTurn
namespace Go.Proofs.Ytpdalmlkicenaaa
open Go Go.Sx
set_option maxRecDepth 100000
set_option linter.unusedVariables false
attribute [local simp] evF evC runReg runOps stepOp stepEff evOp applyEff lk up Opd.ev fresh Sx.isAgg binEv binInt setRow Sx.bind resAll resEv leave Sx.tidy packRes cget csub cput ccat crep fillEv partsEv clen Sx.cells isScalar toRow ptrs ptrsL ren renL reach reachFuel currOf newest nodupB srcOf toOf renRow getRow idxEv boundEv eqAgg eqCells eqCell BT.isInt mkAgg allInts slLen slFirst slCells callAt backOf toMini binShift bitsOf unEv mx2 mxL runRec pairsOk disjB touch touchOp
def isTup : Option (EV × List Row × List Nat) → Option (EV × List Row × List Nat) → Bool
  | some (.tup [.int .i64 a, .int .i64 b], [], []), some (.tup [.int .i64 c, .int .i64 d], [], []) => decide (a = c) && decide (b = d)
  | _, _ => false
theorem of_isTup {x y : Option (EV × List Row × List Nat)} (h : isTup x y = true) : ∃ p q, x = some (.tup [.int .i64 p, .int .i64 q], [], []) ∧ y = some (.tup [.int .i64 p, .int .i64 q], [], []) := by
  unfold isTup at h
  split at h
  · simp only [Bool.and_eq_true, decide_eq_true_eq] at h
    obtain ⟨rfl, rfl⟩ := h
    exact ⟨_, _, rfl, rfl⟩
  · cases h
def h14 : List Row := [⟨true, .ints .i64 [1, 1, 16, 15, 9, 8, 6, 5, 5, 4, 4, 3, 45, 32, 3, 2, 8, 5, 5, 3, 9, 5, 15, 8]⟩]
def st14a (k : Int) : St := { env := [(0, .int .i64 k), (2, .int .i64 0), (3, .int .i64 0), (4, .unk), (23, .unk)], heap := [] }
def st14 (k : Int) : St := { env := [(0, .int .i64 k), (2, .int .i64 0), (3, .int .i64 0), (4, .ptr 0 0), (23, .unk)], heap := h14 }
theorem r14a (C : CallF) (k : Int) : evC C (.reg r14_0) { env := Sx.bind sf14 [.int .i64 k], heap := [] } = some (.normal, st14a k) := by kernel_rfl
theorem r14b (C : CallF) (k : Int) : evC C (.reg r14_1) (st14a k) = some (.normal, st14 k) := by kernel_rfl
theorem ratio14 (k : Int) (h : k < 0 ∨ 11 < k) : evF tab 5 14 [.int .i64 k] [] = some (.tup [.int .i64 0, .int .i64 1], [], []) := by
  rw [evF_eq t14 rfl]
  generalize evF tab 4 = C
  show finish sf14 0 (evC C (SC.seq (.reg r14_0) (SC.seq (.reg r14_1) _)) _) = _
  rw [evC_seq_of (r14a C k), evC_seq_of (r14b C k)]
  rcases h with h | h
  · simp [finish, sf14, st14, h14, r14_2, r14_3, h]
  · have h1 : ¬ k < 0 := by omega
    have h2 : 12 ≤ k := by omega
    simp [finish, sf14, st14, h14, r14_2, r14_3, *]
def h15 : List Row := [⟨true, .ints .i64 [1, 16, 9, 6, 5, 4, 45, 3, 8, 5, 9, 15]⟩]
def h15b : List Row := [⟨true, .ints .i64 [1, 16, 9, 6, 5, 4, 45, 3, 8, 5, 9, 15]⟩, ⟨true, .ints .i64 [1, 15, 8, 5, 4, 3, 32, 2, 5, 3, 5, 8]⟩]
def st15a (k : Int) : St := { env := [(0, .int .i64 k), (2, .int .i64 0), (3, .int .i64 0), (4, .unk), (5, .unk), (13, .unk)], heap := [] }
def st15b (k : Int) : St := { env := [(0, .int .i64 k), (2, .int .i64 0), (3, .int .i64 0), (4, .slice 0 0 12 1), (5, .unk), (13, .unk)], heap := h15 }
def st15 (k : Int) : St := { env := [(0, .int .i64 k), (2, .int .i64 0), (3, .int .i64 0), (4, .slice 0 0 12 1), (5, .slice 1 0 12 1), (13, .unk)], heap := h15b }
theorem r15a (C : CallF) (k : Int) : evC C (.reg r15_0) { env := Sx.bind sf15 [.int .i64 k], heap := [] } = some (.normal, st15a k) := by kernel_rfl
theorem r15b (C : CallF) (k : Int) : evC C (.reg r15_1) (st15a k) = some (.normal, st15b k) := by kernel_rfl
theorem r15c (C : CallF) (k : Int) : evC C (.reg r15_2) (st15b k) = some (.normal, st15 k) := by kernel_rfl
theorem ratio15 (k : Int) (h : k < 0 ∨ 11 < k) : evF tab 5 15 [.int .i64 k] [] = some (.tup [.int .i64 0, .int .i64 1], [], []) := by
  rw [evF_eq t15 rfl]
  generalize evF tab 4 = C
  show finish sf15 0 (evC C (SC.seq (.reg r15_0) (SC.seq (.reg r15_1) (SC.seq (.reg r15_2) _))) _) = _
  rw [evC_seq_of (r15a C k), evC_seq_of (r15b C k), evC_seq_of (r15c C k)]
  rcases h with h | h
  · simp [finish, sf15, st15, h15b, r15_3, r15_4, h]
  · have h1 : ¬ k < 0 := by omega
    have h2 : 12 ≤ k := by omega
    simp [finish, sf15, st15, h15b, r15_3, r15_4, *]
theorem ratios (k : Int) : ∃ p q, evF tab 5 14 [.int .i64 k] [] = some (.tup [.int .i64 p, .int .i64 q], [], []) ∧ evF tab 5 15 [.int .i64 k] [] = some (.tup [.int .i64 p, .int .i64 q], [], []) := by
  by_cases h : k < 0 ∨ 11 < k
  · exact ⟨0, 1, ratio14 k h, ratio15 k h⟩
  · exact of_isTup (all_range (lo := 0) (n := 12) (p := fun k => isTup (evF tab 5 14 [.int .i64 k] []) (evF tab 5 15 [.int .i64 k] [])) (by kernel_rfl) (by omega) (by omega))
theorem note_out (n : Nat) (k : Int) (h : k < -60 ∨ 36 < k) : evF tab (n + 1) 16 [.int .i64 k] [] = some (.int .i64 0, [], []) := by
  rcases h with h | h
  · simp [t16, sf16, r16_0, r16_1, r16_2, h]
  · have h1 : ¬ k < -60 := by omega
    have h2 : 37 ≤ k := by omega
    simp [t16, sf16, r16_0, r16_1, r16_2, *]
def tail6 : SC := (.seq (.reg r6_5) (.seq (.seq (.reg r6_6) (.cond (.t 41) (.seq (.reg r6_7) .ret) .skip)) (.seq (.reg r6_8) (.seq (.reg r6_9) (.seq (.reg r6_10) (.seq (.seq (.reg r6_11) (.block 0 (.loop l6_15))) (.seq (.seq (.reg r6_16) (.block 2 (.loop l6_20))) (.seq (.seq (.reg r6_21) (.cond (.t 79) (.reg r6_22) .skip)) (.seq (.reg r6_23) .ret)))))))))
def body6 : SC := (.seq (.reg r6_0) (.seq (.reg r6_1) (.seq (.reg r6_2) (.seq (.seq (.reg r6_3) (.cond (.t 33) (.seq (.reg r6_4) .ret) .skip)) tail6))))
def env6 (a0 a1 p q : Int) : St := { env := [(0, .int .i64 a0), (1, .int .i64 a1), (4, .bool false), (5, .int .i64 p), (6, .int .i64 q), (7, .int .i64 p), (8, .int .i64 q), (9, .unk), (10, .unk), (11, .unk), (12, .unk), (13, .unk), (14, .unk), (15, .unk), (33, .bool false), (41, .unk), (65, .unk), (73, .unk), (79, .unk)], heap := [] }
theorem notes_head (a0 a1 p q : Int) (C : CallF) (h1 : C 14 [.int .i64 a0] [] = some (.tup [.int .i64 p, .int .i64 q], [], [])) (h2 : C 15 [.int .i64 a0] [] = some (.tup [.int .i64 p, .int .i64 q], [], [])) :
    evC C body6 { env := Sx.bind sf6 [.int .i64 a0, .int .i64 a1], heap := [] } = evC C tail6 (env6 a0 a1 p q) := by
  simp [body6, sf6, r6_0, r6_1, r6_2, r6_3, env6, h1, h2]
theorem notes_tail_0 (a0 p q : Int) : ((List.range 4).all fun i => (fun k => isTrue (finish sf6 0 (evC (evF tab 5) tail6 (env6 a0 k p q)))) (-60 + i)) = true := by kernel_rfl
theorem notes_tail_4 (a0 p q : Int) : ((List.range 4).all fun i => (fun k => isTrue (finish sf6 0 (evC (evF tab 5) tail6 (env6 a0 k p q)))) (-56 + i)) = true := by kernel_rfl
theorem notes_tail_8 (a0 p q : Int) : ((List.range 4).all fun i => (fun k => isTrue (finish sf6 0 (evC (evF tab 5) tail6 (env6 a0 k p q)))) (-52 + i)) = true := by kernel_rfl
theorem notes_tail_12 (a0 p q : Int) : ((List.range 4).all fun i => (fun k => isTrue (finish sf6 0 (evC (evF tab 5) tail6 (env6 a0 k p q)))) (-48 + i)) = true := by kernel_rfl
theorem notes_tail_16 (a0 p q : Int) : ((List.range 4).all fun i => (fun k => isTrue (finish sf6 0 (evC (evF tab 5) tail6 (env6 a0 k p q)))) (-44 + i)) = true := by kernel_rfl
theorem notes_tail_20 (a0 p q : Int) : ((List.range 4).all fun i => (fun k => isTrue (finish sf6 0 (evC (evF tab 5) tail6 (env6 a0 k p q)))) (-40 + i)) = true := by kernel_rfl
theorem notes_tail_24 (a0 p q : Int) : ((List.range 4).all fun i => (fun k => isTrue (finish sf6 0 (evC (evF tab 5) tail6 (env6 a0 k p q)))) (-36 + i)) = true := by kernel_rfl
theorem notes_tail_28 (a0 p q : Int) : ((List.range 4).all fun i => (fun k => isTrue (finish sf6 0 (evC (evF tab 5) tail6 (env6 a0 k p q)))) (-32 + i)) = true := by kernel_rfl
theorem notes_tail_32 (a0 p q : Int) : ((List.range 4).all fun i => (fun k => isTrue (finish sf6 0 (evC (evF tab 5) tail6 (env6 a0 k p q)))) (-28 + i)) = true := by kernel_rfl
theorem notes_tail_36 (a0 p q : Int) : ((List.range 4).all fun i => (fun k => isTrue (finish sf6 0 (evC (evF tab 5) tail6 (env6 a0 k p q)))) (-24 + i)) = true := by kernel_rfl
theorem notes_tail_40 (a0 p q : Int) : ((List.range 4).all fun i => (fun k => isTrue (finish sf6 0 (evC (evF tab 5) tail6 (env6 a0 k p q)))) (-20 + i)) = true := by kernel_rfl
theorem notes_tail_44 (a0 p q : Int) : ((List.range 4).all fun i => (fun k => isTrue (finish sf6 0 (evC (evF tab 5) tail6 (env6 a0 k p q)))) (-16 + i)) = true := by kernel_rfl
theorem notes_tail_48 (a0 p q : Int) : ((List.range 4).all fun i => (fun k => isTrue (finish sf6 0 (evC (evF tab 5) tail6 (env6 a0 k p q)))) (-12 + i)) = true := by kernel_rfl
theorem notes_tail_52 (a0 p q : Int) : ((List.range 4).all fun i => (fun k => isTrue (finish sf6 0 (evC (evF tab 5) tail6 (env6 a0 k p q)))) (-8 + i)) = true := by kernel_rfl
theorem notes_tail_56 (a0 p q : Int) : ((List.range 4).all fun i => (fun k => isTrue (finish sf6 0 (evC (evF tab 5) tail6 (env6 a0 k p q)))) (-4 + i)) = true := by kernel_rfl
theorem notes_tail_60 (a0 p q : Int) : ((List.range 4).all fun i => (fun k => isTrue (finish sf6 0 (evC (evF tab 5) tail6 (env6 a0 k p q)))) (0 + i)) = true := by kernel_rfl
theorem notes_tail_64 (a0 p q : Int) : ((List.range 4).all fun i => (fun k => isTrue (finish sf6 0 (evC (evF tab 5) tail6 (env6 a0 k p q)))) (4 + i)) = true := by kernel_rfl
theorem notes_tail_68 (a0 p q : Int) : ((List.range 4).all fun i => (fun k => isTrue (finish sf6 0 (evC (evF tab 5) tail6 (env6 a0 k p q)))) (8 + i)) = true := by kernel_rfl
theorem notes_tail_72 (a0 p q : Int) : ((List.range 4).all fun i => (fun k => isTrue (finish sf6 0 (evC (evF tab 5) tail6 (env6 a0 k p q)))) (12 + i)) = true := by kernel_rfl
theorem notes_tail_76 (a0 p q : Int) : ((List.range 4).all fun i => (fun k => isTrue (finish sf6 0 (evC (evF tab 5) tail6 (env6 a0 k p q)))) (16 + i)) = true := by kernel_rfl
theorem notes_tail_80 (a0 p q : Int) : ((List.range 4).all fun i => (fun k => isTrue (finish sf6 0 (evC (evF tab 5) tail6 (env6 a0 k p q)))) (20 + i)) = true := by kernel_rfl
theorem notes_tail_84 (a0 p q : Int) : ((List.range 4).all fun i => (fun k => isTrue (finish sf6 0 (evC (evF tab 5) tail6 (env6 a0 k p q)))) (24 + i)) = true := by kernel_rfl
theorem notes_tail_88 (a0 p q : Int) : ((List.range 4).all fun i => (fun k => isTrue (finish sf6 0 (evC (evF tab 5) tail6 (env6 a0 k p q)))) (28 + i)) = true := by kernel_rfl
theorem notes_tail_92 (a0 p q : Int) : ((List.range 4).all fun i => (fun k => isTrue (finish sf6 0 (evC (evF tab 5) tail6 (env6 a0 k p q)))) (32 + i)) = true := by kernel_rfl
theorem notes_tail_96 (a0 p q : Int) : ((List.range 1).all fun i => (fun k => isTrue (finish sf6 0 (evC (evF tab 5) tail6 (env6 a0 k p q)))) (36 + i)) = true := by kernel_rfl
theorem notes_tail (a0 p q : Int) (k : Int) (h1 : -60 ≤ k) (h2 : k < 37) : (fun k => isTrue (finish sf6 0 (evC (evF tab 5) tail6 (env6 a0 k p q)))) k = true := by
  by_cases h0 : k < -56
  · exact all_range (p := (fun k => isTrue (finish sf6 0 (evC (evF tab 5) tail6 (env6 a0 k p q))))) (notes_tail_0 a0 p q) (by omega) (by omega)
  by_cases h4 : k < -52
  · exact all_range (p := (fun k => isTrue (finish sf6 0 (evC (evF tab 5) tail6 (env6 a0 k p q))))) (notes_tail_4 a0 p q) (by omega) (by omega)
  by_cases h8 : k < -48
  · exact all_range (p := (fun k => isTrue (finish sf6 0 (evC (evF tab 5) tail6 (env6 a0 k p q))))) (notes_tail_8 a0 p q) (by omega) (by omega)
  by_cases h12 : k < -44
  · exact all_range (p := (fun k => isTrue (finish sf6 0 (evC (evF tab 5) tail6 (env6 a0 k p q))))) (notes_tail_12 a0 p q) (by omega) (by omega)
  by_cases h16 : k < -40
  · exact all_range (p := (fun k => isTrue (finish sf6 0 (evC (evF tab 5) tail6 (env6 a0 k p q))))) (notes_tail_16 a0 p q) (by omega) (by omega)
  by_cases h20 : k < -36
  · exact all_range (p := (fun k => isTrue (finish sf6 0 (evC (evF tab 5) tail6 (env6 a0 k p q))))) (notes_tail_20 a0 p q) (by omega) (by omega)
  by_cases h24 : k < -32
  · exact all_range (p := (fun k => isTrue (finish sf6 0 (evC (evF tab 5) tail6 (env6 a0 k p q))))) (notes_tail_24 a0 p q) (by omega) (by omega)
  by_cases h28 : k < -28
  · exact all_range (p := (fun k => isTrue (finish sf6 0 (evC (evF tab 5) tail6 (env6 a0 k p q))))) (notes_tail_28 a0 p q) (by omega) (by omega)
  by_cases h32 : k < -24
  · exact all_range (p := (fun k => isTrue (finish sf6 0 (evC (evF tab 5) tail6 (env6 a0 k p q))))) (notes_tail_32 a0 p q) (by omega) (by omega)
  by_cases h36 : k < -20
  · exact all_range (p := (fun k => isTrue (finish sf6 0 (evC (evF tab 5) tail6 (env6 a0 k p q))))) (notes_tail_36 a0 p q) (by omega) (by omega)
  by_cases h40 : k < -16
  · exact all_range (p := (fun k => isTrue (finish sf6 0 (evC (evF tab 5) tail6 (env6 a0 k p q))))) (notes_tail_40 a0 p q) (by omega) (by omega)
  by_cases h44 : k < -12
  · exact all_range (p := (fun k => isTrue (finish sf6 0 (evC (evF tab 5) tail6 (env6 a0 k p q))))) (notes_tail_44 a0 p q) (by omega) (by omega)
  by_cases h48 : k < -8
  · exact all_range (p := (fun k => isTrue (finish sf6 0 (evC (evF tab 5) tail6 (env6 a0 k p q))))) (notes_tail_48 a0 p q) (by omega) (by omega)
  by_cases h52 : k < -4
  · exact all_range (p := (fun k => isTrue (finish sf6 0 (evC (evF tab 5) tail6 (env6 a0 k p q))))) (notes_tail_52 a0 p q) (by omega) (by omega)
  by_cases h56 : k < 0
  · exact all_range (p := (fun k => isTrue (finish sf6 0 (evC (evF tab 5) tail6 (env6 a0 k p q))))) (notes_tail_56 a0 p q) (by omega) (by omega)
  by_cases h60 : k < 4
  · exact all_range (p := (fun k => isTrue (finish sf6 0 (evC (evF tab 5) tail6 (env6 a0 k p q))))) (notes_tail_60 a0 p q) (by omega) (by omega)
  by_cases h64 : k < 8
  · exact all_range (p := (fun k => isTrue (finish sf6 0 (evC (evF tab 5) tail6 (env6 a0 k p q))))) (notes_tail_64 a0 p q) (by omega) (by omega)
  by_cases h68 : k < 12
  · exact all_range (p := (fun k => isTrue (finish sf6 0 (evC (evF tab 5) tail6 (env6 a0 k p q))))) (notes_tail_68 a0 p q) (by omega) (by omega)
  by_cases h72 : k < 16
  · exact all_range (p := (fun k => isTrue (finish sf6 0 (evC (evF tab 5) tail6 (env6 a0 k p q))))) (notes_tail_72 a0 p q) (by omega) (by omega)
  by_cases h76 : k < 20
  · exact all_range (p := (fun k => isTrue (finish sf6 0 (evC (evF tab 5) tail6 (env6 a0 k p q))))) (notes_tail_76 a0 p q) (by omega) (by omega)
  by_cases h80 : k < 24
  · exact all_range (p := (fun k => isTrue (finish sf6 0 (evC (evF tab 5) tail6 (env6 a0 k p q))))) (notes_tail_80 a0 p q) (by omega) (by omega)
  by_cases h84 : k < 28
  · exact all_range (p := (fun k => isTrue (finish sf6 0 (evC (evF tab 5) tail6 (env6 a0 k p q))))) (notes_tail_84 a0 p q) (by omega) (by omega)
  by_cases h88 : k < 32
  · exact all_range (p := (fun k => isTrue (finish sf6 0 (evC (evF tab 5) tail6 (env6 a0 k p q))))) (notes_tail_88 a0 p q) (by omega) (by omega)
  by_cases h92 : k < 36
  · exact all_range (p := (fun k => isTrue (finish sf6 0 (evC (evF tab 5) tail6 (env6 a0 k p q))))) (notes_tail_92 a0 p q) (by omega) (by omega)
  by_cases h96 : k < 37
  · exact all_range (p := (fun k => isTrue (finish sf6 0 (evC (evF tab 5) tail6 (env6 a0 k p q))))) (notes_tail_96 a0 p q) (by omega) (by omega)
  omega
theorem notes (a0 a1 : Int) : evF tab 6 6 [.int .i64 a0, .int .i64 a1] [] = some (.bool true, [], []) := by
  obtain ⟨p, q, h1, h2⟩ := ratios a0
  rw [evF_eq t6 rfl, show sf6.body = body6 from rfl, notes_head a0 a1 p q _ h1 h2]
  by_cases h : a1 < -60 ∨ 36 < a1
  · have e := note_out 4 a1 h
    have a := awake_ok
    generalize evF tab 5 = C at *
    rcases h with h | h
    · simp [tail6, finish, env6, r6_5, r6_6, r6_7, sf6, *]
    · have h1 : ¬ a1 < -60 := by omega
      have h2 : 37 ≤ a1 := by omega
      simp [tail6, finish, env6, r6_5, r6_6, r6_7, sf6, *]
  · exact of_isTrue (notes_tail a0 p q a1 (by omega) (by omega))
end Go.Proofs.Ytpdalmlkicenaaa
