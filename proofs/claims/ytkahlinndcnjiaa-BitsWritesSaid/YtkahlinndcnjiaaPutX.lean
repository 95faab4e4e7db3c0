/-
  What a writer of bits does: one bit, a number, any numbers. Conditions: none.
-/
import Derived.Test.YtkahlinndcnjiaaDecX
import Derived.KernelRfl
namespace Go.Proofs.Ytkahlinndcnjiaa
open Go Go.Sx X
set_option maxRecDepth 100000
set_option linter.unusedVariables false
attribute [local simp] asI_i asB_b asL_l asN_n asS_s asE_nil altK_none altK_0 altK_1 altK_2 altK_3 optK_some optK_none Bool.cond_decide Bool.cond_not Int.toNat_natCast
set_option linter.unusedSimpArgs false
/-- A byte with a bit laid at its place. -/
def bitV (v : Int) (t n : Nat) (x : Int) : Int := bOr .u8 x (shlI .u8 (IntKind.u8.wrap (bAnd .u64 (shrI .u64 v t) 1)) (7 - ((n % 8 : Nat) : Int)))
def roomV (n : Nat) (bl : List Int) : List Int := if n % 8 = 0 then bl ++ [0] else bl
def bitStep (v : Int) (t : Nat) (s : List Int × Nat) : List Int × Nat := ((roomV s.2 s.1).set (s.2 / 8) (bitV v t s.2 ((roomV s.2 s.1).getD (s.2 / 8) 0)), s.2 + 1)
def WS (s : List Int × Nat) : Prop := s.1.length = (s.2 + 7) / 8
theorem bit_ws {v : Int} {t : Nat} {s : List Int × Nat} (h : WS s) : WS (bitStep v t s) := by
  unfold WS at *
  show ((roomV s.2 s.1).set _ _).length = (s.2 + 1 + 7) / 8
  rw [List.length_set]
  unfold roomV
  split
  · rw [List.length_append, h]; show _ + 1 = _; omega
  · rw [h]; omega
theorem bit_len {v : Int} {t : Nat} {s : List Int × Nat} : (bitStep v t s).1.length = s.1.length + (if s.2 % 8 = 0 then 1 else 0) := by
  show ((roomV s.2 s.1).set _ _).length = _
  rw [List.length_set]
  unfold roomV
  split
  · rw [List.length_append]; rfl
  · rfl
def bitsF (v : Int) (K : Nat) (s : List Int × Nat) : Nat → List Int × Nat
  | 0 => s
  | j + 1 => bitStep v (K - 1 - j) (bitsF v K s j)
theorem bits_ws {v : Int} {K : Nat} {s : List Int × Nat} (h : WS s) : ∀ j, WS (bitsF v K s j)
  | 0 => h
  | j + 1 => bit_ws (bits_ws h j)
theorem bits_n {v : Int} {K : Nat} {s : List Int × Nat} : ∀ j, (bitsF v K s j).2 = s.2 + j
  | 0 => rfl
  | j + 1 => by show (bitsF v K s j).2 + 1 = _; rw [bits_n j]; omega
theorem bits_mono {v : Int} {K : Nat} {s : List Int × Nat} : ∀ j, s.1.length ≤ (bitsF v K s j).1.length
  | 0 => Nat.le_refl _
  | j + 1 => by
    have := bits_mono (v := v) (K := K) (s := s) j
    show _ ≤ (bitStep _ _ (bitsF v K s j)).1.length
    rw [bit_len]
    omega
theorem shl_ok (x : Int) {n : Nat} : (7 - ((n % 8 : Nat) : Int)) = ((7 - n % 8 : Nat) : Int) := by omega
/-- A round of Put's loop, where bytes are there: of shape a, and of shape b where room was made. -/
theorem put_round (a b : Nat) (hab : (a = 1 ∧ b = 3) ∨ (a = 2 ∧ b = 2) ∨ (a = 3 ∧ b = 3)) (v : Int) (t n : Nat) (bl : List Int) (e : Int) (h : WS (bl, n)) (hn : n ≤ 100000) (ht : t ≤ 100) :
    f18_0 (a, [.i v, .i t, .n bl.length, .i n, .i e, .l bl]) = some (if n % 8 = 0 then b else a, [.i v, .i ((t : Int) - 1), .n (bitStep v t (bl, n)).1.length, .i (n + 1 : Nat), .i e, .l (bitStep v t (bl, n)).1]) := by
  have h1 : Int.tmod (n : Int) 8 = ((n % 8 : Nat) : Int) := by rw [Int.tmod_eq_emod_of_nonneg (by omega)]; omega
  have h2 : IntKind.i64.wrap (Int.tdiv (n : Int) 8) = ((n / 8 : Nat) : Int) := by rw [Int.tdiv_eq_ediv_of_nonneg (by omega), wrap64 (by omega) (by omega)]; omega
  have h3 : IntKind.i64.wrap (7 - ((n % 8 : Nat) : Int)) = 7 - ((n % 8 : Nat) : Int) := wrap64 (by omega) (by omega)
  have h4 : IntKind.i64.wrap ((n : Int) + 1) = ((n + 1 : Nat) : Int) := wrap_nat (n := n + 1) (by omega)
  have h5 : IntKind.i64.wrap ((t : Int) - 1) = (t : Int) - 1 := wrap64 (by omega) (by omega)
  unfold WS at h
  simp only at h
  have hlen : (bitStep v t (bl, n)).1.length = bl.length + (if n % 8 = 0 then 1 else 0) := bit_len
  have e0 : (bitStep v t (bl, n)).1 = (roomV n bl).set (n / 8) (bitV v t n ((roomV n bl).getD (n / 8) 0)) := rfl
  by_cases c : n % 8 = 0
  · have c' : ((n % 8 : Nat) : Int) = 0 := by omega
    rw [if_pos c] at hlen ⊢
    have er : roomV n bl = bl ++ [0] := by unfold roomV; rw [if_pos c]
    rw [er] at e0
    have hl2 : (bl ++ [0]).length = bl.length + 1 := by simp
    have hx : (bl ++ [0])[n / 8]? = some ((bl ++ [0]).getD (n / 8) 0) := get_some (by omega)
    generalize (bl ++ [0]).getD (n / 8) 0 = x at *
    unfold bitV at e0
    rw [hlen]
    rcases hab with ⟨rfl, rfl⟩ | ⟨rfl, rfl⟩ | ⟨rfl, rfl⟩
    all_goals
      simp -implicitDefEqProofs only [f18_0, f18_0_1, f18_0_2, f18_0_3, asI_i, asN_n, asL_l, asE_nil, Bool.cond_decide, if_pos (show (0 : Int) ≤ t by omega), h1, h2, h3, h4, h5, if_pos c', if_pos (show (bl.length + 1) * 1 ≤ 70368744177664 by omega), if_pos (show bl.length = bl.length * 1 by omega), if_pos (show (0 : Int) ≤ ((n / 8 : Nat) : Int) ∧ ((n / 8 : Nat) : Int) < ((bl.length + 1 : Nat) : Int) by omega), Int.toNat_natCast, hx, optK_some, if_neg (show ¬ (t : Int) < 0 by omega), if_neg (show ¬ (7 - ((n % 8 : Nat) : Int)) < 0 by omega), if_pos (show n / 8 < (bl ++ [0]).length by omega), e0]
  · have c' : ¬ ((n % 8 : Nat) : Int) = 0 := by omega
    rw [if_neg c] at hlen ⊢
    have er : roomV n bl = bl := by unfold roomV; rw [if_neg c]
    rw [er] at e0
    have hx : bl[n / 8]? = some (bl.getD (n / 8) 0) := get_some (by omega)
    generalize bl.getD (n / 8) 0 = x at *
    unfold bitV at e0
    rw [hlen]
    rcases hab with ⟨rfl, rfl⟩ | ⟨rfl, rfl⟩ | ⟨rfl, rfl⟩
    all_goals
      simp -implicitDefEqProofs only [f18_0, f18_0_1, f18_0_2, f18_0_3, asI_i, asN_n, asL_l, asE_nil, Bool.cond_decide, if_pos (show (0 : Int) ≤ t by omega), h1, h2, h3, h4, h5, if_neg c', if_pos (show (0 : Int) ≤ ((n / 8 : Nat) : Int) ∧ ((n / 8 : Nat) : Int) < ((bl.length : Nat) : Int) by omega), Int.toNat_natCast, hx, optK_some, if_neg (show ¬ (t : Int) < 0 by omega), if_neg (show ¬ (7 - ((n % 8 : Nat) : Int)) < 0 by omega), if_pos (show n / 8 < bl.length by omega), e0, Nat.add_zero]
theorem put_first (v : Int) (t : Nat) (e : Int) (ht : t ≤ 100) :
    f18_0 (0, [.i v, .i t, .i 0, .i e]) = some (2, [.i v, .i ((t : Int) - 1), .n 1, .i 1, .i e, .l (bitStep v t ([], 0)).1]) := by
  have h1 : Int.tmod (0 : Int) 8 = 0 := rfl
  have h2 : IntKind.i64.wrap (Int.tdiv (0 : Int) 8) = 0 := by decide
  have h3 : IntKind.i64.wrap (7 - (0 : Int)) = 7 - ((0 % 8 : Nat) : Int) := by decide
  have h4 : IntKind.i64.wrap ((0 : Int) + 1) = 1 := by decide
  have h5 : IntKind.i64.wrap ((t : Int) - 1) = (t : Int) - 1 := wrap64 (by omega) (by omega)
  have e0 : (bitStep v t ([], 0)).1 = ([0] : List Int).set (Int.toNat 0) (bitV v t 0 0) := rfl
  have hx : ([0] : List Int)[Int.toNat 0]? = some 0 := rfl
  unfold bitV at e0
  have h7 : ¬ (7 - ((0 % 8 : Nat) : Int)) < 0 := by decide
  simp -implicitDefEqProofs only [f18_0, f18_0_0, asI_i, asE_nil, Bool.cond_decide, if_pos (show (0 : Int) ≤ t by omega), h1, if_true, h2, if_pos (show (0 : Int) ≤ 0 ∧ (0 : Int) < ((1 : Nat) : Int) by omega), hx, optK_some, if_neg (show ¬ (t : Int) < 0 by omega), h3, h4, h5, if_neg h7, if_pos (show Int.toNat 0 < 1 by decide), e0]
/-- What a writer is: its bytes, how many bits, its error. -/
abbrev Wr := List Int × Nat × Int
def wrV (K : Int) (s : Wr) (v : Int) : Wr :=
  if s.2.2 ≠ 0 then s
  else if K < 0 ∨ 57 < K ∨ shrI .u64 v K ≠ 0 then (s.1, s.2.1, 5)
  else ((bitsF v K.toNat (s.1, s.2.1) K.toNat).1, (bitsF v K.toNat (s.1, s.2.1) K.toNat).2, 0)
def WOk (m : Nat) (s : Wr) : Prop := WS (s.1, s.2.1) ∧ s.2.1 ≤ m
theorem wr_ok {K : Int} {s : Wr} {v : Int} {m : Nat} (h : WOk m s) : WOk (m + 57) (wrV K s v) := by
  unfold wrV
  split
  · exact ⟨h.1, by have := h.2; omega⟩
  · split
    · exact ⟨h.1, by have := h.2; show s.2.1 ≤ _; omega⟩
    · rename_i q
      have hb := bits_ws (v := v) (K := K.toNat) h.1 K.toNat
      refine ⟨hb, ?_⟩
      show (bitsF v K.toNat (s.1, s.2.1) K.toNat).2 ≤ _
      rw [bits_n]
      have := h.2
      show s.2.1 + _ ≤ _
      omega
theorem wr_mono {K : Int} {s : Wr} {v : Int} : s.1.length ≤ (wrV K s v).1.length := by
  unfold wrV
  split
  · exact Nat.le_refl _
  · split
    · exact Nat.le_refl _
    · exact bits_mono (s := (s.1, s.2.1)) _
/-- Put, of a writer with bytes. -/
theorem put_1 (K v : Int) (s : Wr) (h : WOk 90000 s) : ∃ j, (j = 1 ∨ j = 2) ∧
    g18 (1, [.i v, .i K, .n s.1.length, .i s.2.1, .i s.2.2, .l s.1]) = some (j, [.n (wrV K s v).1.length, .i (wrV K s v).2.1, .i (wrV K s v).2.2, .l (wrV K s v).1]) := by
  obtain ⟨bl, n, e⟩ := s
  obtain ⟨hw, hn⟩ := h
  simp only at hw hn
  by_cases c0 : e ≠ 0
  · have ev : wrV K (bl, n, e) v = (bl, n, e) := by unfold wrV; rw [if_pos c0]
    rw [ev]
    exact ⟨1, Or.inl rfl, by simp -implicitDefEqProofs only [g18, g18_1, asI_i, asN_n, asL_l, asE_nil, Bool.cond_decide, if_pos c0]⟩
  · have c0' : e = 0 := by omega
    subst c0'
    by_cases c1 : K < 0
    · have ev : wrV K (bl, n, 0) v = (bl, n, 5) := by unfold wrV; rw [if_neg c0, if_pos (Or.inl c1)]
      rw [ev]
      exact ⟨1, Or.inl rfl, by simp -implicitDefEqProofs only [g18, g18_1, asI_i, asN_n, asL_l, asE_nil, Bool.cond_decide, if_neg c0, if_pos c1]⟩
    · by_cases c2 : 57 < K
      · have ev : wrV K (bl, n, 0) v = (bl, n, 5) := by unfold wrV; rw [if_neg c0, if_pos (Or.inr (Or.inl c2))]
        rw [ev]
        exact ⟨1, Or.inl rfl, by simp -implicitDefEqProofs only [g18, g18_1, asI_i, asN_n, asL_l, asE_nil, Bool.cond_decide, if_neg c0, if_neg c1, if_pos c2]⟩
      · by_cases c3 : shrI .u64 v K ≠ 0
        · have ev : wrV K (bl, n, 0) v = (bl, n, 5) := by unfold wrV; rw [if_neg c0, if_pos (Or.inr (Or.inr c3))]
          rw [ev]
          exact ⟨1, Or.inl rfl, by simp -implicitDefEqProofs only [g18, g18_1, asI_i, asN_n, asL_l, asE_nil, Bool.cond_decide, if_neg c0, if_neg c1, if_neg c2, if_pos c3]⟩
        · obtain ⟨k, rfl⟩ : ∃ k : Nat, K = k := ⟨K.toNat, by omega⟩
          have ev : wrV k (bl, n, 0) v = ((bitsF v k (bl, n) k).1, (bitsF v k (bl, n) k).2, 0) := by unfold wrV; rw [if_neg c0, if_neg (by intro q; rcases q with q | q | q; exact c1 q; exact c2 q; exact c3 q)]; rfl
          have w1 : IntKind.i64.wrap ((k : Int) - 1) = (k : Int) - 1 := wrap64 (by omega) (by omega)
          have hf : (bitsF v k (bl, n) k).2 = n + k := bits_n k
          have hl : L18_0 (1, [.i v, .i ((k : Int) - 1), .n bl.length, .i n, .i 0, .l bl]) = some (if (bitsF v k (bl, n) k).1.length = bl.length then 1 else 3, [.n (bitsF v k (bl, n) k).1.length, .i (n + k : Nat), .i 0, .l (bitsF v k (bl, n) k).1]) := by
            have main := loopL_run (m := 4) (f := f18_0) (fun j => (if (bitsF v k (bl, n) j).1.length = bl.length then 1 else 3, [.i v, .i ((k : Int) - 1 - j), .n (bitsF v k (bl, n) j).1.length, .i (n + j : Nat), .i 0, .l (bitsF v k (bl, n) j).1])) k (j := if (bitsF v k (bl, n) k).1.length = bl.length then 1 else 3) (r := [.n (bitsF v k (bl, n) k).1.length, .i (n + k : Nat), .i 0, .l (bitsF v k (bl, n) k).1]) (fun j hj => ⟨?_, by show (if _ then 1 else 3) < 4; split <;> omega⟩) ?_ (by omega)
            · unfold L18_0
              have z : (if (bitsF v k (bl, n) 0).1.length = bl.length then 1 else 3) = 1 := if_pos rfl
              simp only [z, Int.ofNat_zero, Int.sub_zero, Nat.add_zero] at main
              simpa [bitsF] using main
            · have hws : WS ((bitsF v k (bl, n) j).1, n + j) := by have := bits_ws (v := v) (K := k) hw j; rw [← bits_n (v := v) (K := k) (s := (bl, n)) j]; exact this
              have hm := bits_mono (v := v) (K := k) (s := (bl, n)) j
              simp only at hm
              have et : ((k : Int) - 1 - j) = ((k - 1 - j : Nat) : Int) := by omega
              have es : bitsF v k (bl, n) (j + 1) = bitStep v (k - 1 - j) ((bitsF v k (bl, n) j).1, n + j) := by show bitStep _ _ (bitsF v k (bl, n) j) = _; congr 1; exact Prod.ext rfl (bits_n j)
              have el : (bitsF v k (bl, n) (j + 1)).1.length = (bitsF v k (bl, n) j).1.length + (if (n + j) % 8 = 0 then 1 else 0) := by rw [es]; exact bit_len
              simp only [et]
              rw [show ((k : Int) - 1 - ((j + 1 : Nat) : Int)) = ((k - 1 - j : Nat) : Int) - 1 by omega]
              by_cases q : (bitsF v k (bl, n) j).1.length = bl.length
              · rw [if_pos q]
                have := put_round 1 3 (Or.inl ⟨rfl, rfl⟩) v (k - 1 - j) (n + j) (bitsF v k (bl, n) j).1 0 hws (by omega) (by omega)
                rw [this, ← es, Nat.add_assoc]
                congr 2
                by_cases c : (n + j) % 8 = 0
                · rw [if_pos c] at el ⊢
                  rw [if_neg (by omega)]
                · rw [if_neg c] at el ⊢
                  rw [if_pos (by omega)]
              · rw [if_neg q]
                have := put_round 3 3 (Or.inr (Or.inr ⟨rfl, rfl⟩)) v (k - 1 - j) (n + j) (bitsF v k (bl, n) j).1 0 hws (by omega) (by omega)
                rw [this, ← es, Nat.add_assoc]
                have z : (if (bitsF v k (bl, n) (j + 1)).1.length = bl.length then 1 else 3) = 3 := if_neg (by split at el <;> omega)
                rw [z]
                congr 2
                split <;> rfl
            · have et : ((k : Int) - 1 - k) = -1 := by omega
              simp only [et]
              by_cases q : (bitsF v k (bl, n) k).1.length = bl.length
              · rw [if_pos q]
                simp -implicitDefEqProofs only [f18_0, f18_0_1, asI_i, asN_n, asL_l, asE_nil, Bool.cond_decide, if_neg (show ¬ (0 : Int) ≤ -1 by omega)]
              · rw [if_neg q]
                simp -implicitDefEqProofs only [f18_0, f18_0_3, asI_i, asN_n, asL_l, asE_nil, Bool.cond_decide, if_neg (show ¬ (0 : Int) ≤ -1 by omega)]
          rw [ev]
          simp only
          rw [hf]
          by_cases q : (bitsF v k (bl, n) k).1.length = bl.length
          · rw [if_pos q] at hl
            exact ⟨1, Or.inl rfl, by simp -implicitDefEqProofs only [g18, g18_1, asI_i, asN_n, asL_l, asE_nil, Bool.cond_decide, if_neg c0, if_neg c1, if_neg c2, if_neg c3, w1, hl, altK_1]⟩
          · rw [if_neg q] at hl
            exact ⟨2, Or.inr rfl, by simp -implicitDefEqProofs only [g18, g18_1, asI_i, asN_n, asL_l, asE_nil, Bool.cond_decide, if_neg c0, if_neg c1, if_neg c2, if_neg c3, w1, hl, altK_3]⟩
/-- Put, of a writer that has laid nothing. -/
theorem put_0 (K v e : Int) :
    g18 (0, [.i v, .i K, .i 0, .i e]) = some (if (wrV K ([], 0, e) v).1.length = 0 then (0, [.i (wrV K ([], 0, e) v).2.1, .i (wrV K ([], 0, e) v).2.2]) else (1, [.n (wrV K ([], 0, e) v).1.length, .i (wrV K ([], 0, e) v).2.1, .i (wrV K ([], 0, e) v).2.2, .l (wrV K ([], 0, e) v).1])) := by
  by_cases c0 : e ≠ 0
  · have ev : wrV K ([], 0, e) v = ([], 0, e) := by unfold wrV; rw [if_pos c0]
    rw [ev]
    refine Eq.trans ?_ (congrArg some (if_pos (show ([] : List Int).length = 0 from rfl)).symm)
    simp -implicitDefEqProofs only [g18, g18_0, asI_i, asE_nil, Bool.cond_decide, if_pos c0] <;> rfl
  · have c0' : e = 0 := by omega
    subst c0'
    by_cases c1 : K < 0
    · have ev : wrV K ([], 0, 0) v = ([], 0, 5) := by unfold wrV; rw [if_neg c0, if_pos (Or.inl c1)]
      rw [ev]
      refine Eq.trans ?_ (congrArg some (if_pos (show ([] : List Int).length = 0 from rfl)).symm)
      simp -implicitDefEqProofs only [g18, g18_0, asI_i, asE_nil, Bool.cond_decide, if_neg c0, if_pos c1] <;> rfl
    · by_cases c2 : 57 < K
      · have ev : wrV K ([], 0, 0) v = ([], 0, 5) := by unfold wrV; rw [if_neg c0, if_pos (Or.inr (Or.inl c2))]
        rw [ev]
        refine Eq.trans ?_ (congrArg some (if_pos (show ([] : List Int).length = 0 from rfl)).symm)
        simp -implicitDefEqProofs only [g18, g18_0, asI_i, asE_nil, Bool.cond_decide, if_neg c0, if_neg c1, if_pos c2] <;> rfl
      · by_cases c3 : shrI .u64 v K ≠ 0
        · have ev : wrV K ([], 0, 0) v = ([], 0, 5) := by unfold wrV; rw [if_neg c0, if_pos (Or.inr (Or.inr c3))]
          rw [ev]
          refine Eq.trans ?_ (congrArg some (if_pos (show ([] : List Int).length = 0 from rfl)).symm)
          simp -implicitDefEqProofs only [g18, g18_0, asI_i, asE_nil, Bool.cond_decide, if_neg c0, if_neg c1, if_neg c2, if_pos c3] <;> rfl
        · obtain ⟨k, rfl⟩ : ∃ k : Nat, K = k := ⟨K.toNat, by omega⟩
          have ev : wrV k ([], 0, 0) v = ((bitsF v k ([], 0) k).1, (bitsF v k ([], 0) k).2, 0) := by unfold wrV; rw [if_neg c0, if_neg (by intro q; rcases q with q | q | q; exact c1 q; exact c2 q; exact c3 q)]; rfl
          have w1 : IntKind.i64.wrap ((k : Int) - 1) = (k : Int) - 1 := wrap64 (by omega) (by omega)
          have hf : (bitsF v k ([], 0) k).2 = k := by rw [bits_n]; exact Nat.zero_add _
          have hw : WS (([] : List Int), 0) := rfl
          rw [ev]
          simp only
          rw [hf]
          by_cases hk : k = 0
          · subst hk
            have hl : L18_0 (0, [.i v, .i (((0 : Nat) : Int) - 1), .i 0, .i 0]) = some (0, [.i 0, .i 0]) := loopL_last (m := 4) (f := f18_0) (j := 0) (by
              simp -implicitDefEqProofs only [f18_0, f18_0_0, asI_i, asE_nil, Bool.cond_decide, if_neg (show ¬ (0 : Int) ≤ ((0 : Nat) : Int) - 1 by omega)])
            refine Eq.trans ?_ (congrArg some (if_pos (show ([] : List Int).length = 0 from rfl)).symm)
            simp -implicitDefEqProofs only [g18, g18_0, asI_i, asE_nil, Bool.cond_decide, if_neg c0, if_neg c1, if_neg c2, if_neg c3, w1, hl, altK_0] <;> rfl
          · have h1 : 1 ≤ (bitsF v k ([], 0) 1).1.length := by
              show 1 ≤ (bitStep v (k - 1 - 0) ([], 0)).1.length
              rw [bit_len]; show 1 ≤ 0 + 1; omega
            have hl : L18_0 (0, [.i v, .i ((k : Int) - 1), .i 0, .i 0]) = some (2, [.n (bitsF v k ([], 0) k).1.length, .i (k : Nat), .i 0, .l (bitsF v k ([], 0) k).1]) := by
              have main := loopL_run (m := 4) (f := f18_0) (fun j => if j = 0 then (0, [.i v, .i ((k : Int) - 1), .i 0, .i 0]) else (2, [.i v, .i ((k : Int) - 1 - j), .n (bitsF v k ([], 0) j).1.length, .i (j : Nat), .i 0, .l (bitsF v k ([], 0) j).1])) k (j := 2) (r := [.n (bitsF v k ([], 0) k).1.length, .i (k : Nat), .i 0, .l (bitsF v k ([], 0) k).1]) (fun j hj => ?_) ?_ (by omega)
              · unfold L18_0; exact main
              · simp only [Nat.succ_ne_zero, if_false]
                refine ⟨?_, by show 2 < 4; omega⟩
                have et : ((k : Int) - 1 - j) = ((k - 1 - j : Nat) : Int) := by omega
                have e2 : ((k : Int) - 1 - ((j + 1 : Nat) : Int)) = ((k - 1 - j : Nat) : Int) - 1 := by omega
                by_cases q : j = 0
                · subst q
                  rw [if_pos rfl, e2, show ((k : Int) - 1) = ((k - 1 - 0 : Nat) : Int) by omega, put_first v (k - 1 - 0) 0 (by omega)]
                  have el : (bitsF v k ([], 0) (0 + 1)).1.length = 1 := by show (bitStep v (k - 1 - 0) ([], 0)).1.length = 1; rw [bit_len]; rfl
                  rw [el] <;> rfl
                · rw [if_neg q, et, e2]
                  have hws : WS ((bitsF v k ([], 0) j).1, j) := by have := bits_ws (v := v) (K := k) hw j; have e3 := bits_n (v := v) (K := k) (s := (([] : List Int), 0)) j; rw [show (([] : List Int), 0).2 + j = j from Nat.zero_add _] at e3; rw [show ((bitsF v k ([], 0) j).1, j) = bitsF v k ([], 0) j from Prod.ext rfl e3.symm]; exact this
                  have es : bitsF v k ([], 0) (j + 1) = bitStep v (k - 1 - j) ((bitsF v k ([], 0) j).1, j) := by show bitStep _ _ (bitsF v k ([], 0) j) = _; congr 1; exact Prod.ext rfl ((bits_n j).trans (Nat.zero_add _))
                  have := put_round 2 2 (Or.inr (Or.inl ⟨rfl, rfl⟩)) v (k - 1 - j) j (bitsF v k ([], 0) j).1 0 hws (by omega) (by omega)
                  rw [this, ← es]
                  split <;> rfl
              · rw [if_neg hk, show ((k : Int) - 1 - k) = -1 by omega]
                simp -implicitDefEqProofs only [f18_0, f18_0_2, asI_i, asN_n, asL_l, asE_nil, Bool.cond_decide, if_neg (show ¬ (0 : Int) ≤ -1 by omega)]
            have hpos : ¬ (bitsF v k ([], 0) k).1.length = 0 := by
              have hb := bits_ws (v := v) (K := k) hw k
              unfold WS at hb
              rw [hf] at hb
              omega
            rw [if_neg hpos]
            simp -implicitDefEqProofs only [g18, g18_0, asI_i, asN_n, asL_l, asE_nil, Bool.cond_decide, if_neg c0, if_neg c1, if_neg c2, if_neg c3, w1, hl, altK_2]
end Go.Proofs.Ytkahlinndcnjiaa
