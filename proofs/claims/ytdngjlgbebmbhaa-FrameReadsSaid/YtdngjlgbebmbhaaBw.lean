/-
  What a writer of bits does. Conditions: none.
-/
import Derived.Test.YtdngjlgbebmbhaaDecG
import Derived.Test.YtdngjlgbebmbhaaRdB
import Derived.Test.YtdngjlgbebmbhaaWrB
import Derived.KernelRfl
namespace Go.Proofs.Ytdngjlgbebmbhaa
open Go Go.Sx G
set_option maxRecDepth 100000
set_option linter.unusedVariables false
attribute [local simp] asI_i asB_b asL_l asN_n asS_s asE_nil altK_none altK_0 altK_1 altK_2 altK_3 optK_some optK_none Bool.cond_decide Bool.cond_not Int.toNat_natCast
set_option linter.unusedSimpArgs false
/-- A byte with a bit laid at its place. -/
def bitV (v : Int) (t n : Nat) (x : Int) : Int := bOr .u8 x (shlI .u8 (IntKind.u8.wrap (bAnd .u64 (shrI .u64 v t) 1)) (7 - ((n % 8 : Nat) : Int)))
def roomV (n : Nat) (bl : List Int) : List Int := if n % 8 = 0 then bl ++ [0] else bl
def bitStep (v : Int) (t : Nat) (s : List Int × Nat) : List Int × Nat := ((roomV s.2 s.1).set (s.2 / 8) (bitV v t s.2 ((roomV s.2 s.1).getD (s.2 / 8) 0)), s.2 + 1)
def WS (s : List Int × Nat) : Prop := s.1.length = (s.2 + 7) / 8
theorem bit_ws {v : Int} {t : Nat} {s : List Int × Nat} (h : WS s) : WS (bitStep v t s) := by
  unfold WS at *
  show ((roomV s.2 s.1).set _ _).length = (s.2 + 1 + 7) / 8
  rw [List.length_set]
  unfold roomV
  split
  · rw [List.length_append, h]; show _ + 1 = _; omega
  · rw [h]; omega
theorem bit_len {v : Int} {t : Nat} {s : List Int × Nat} : (bitStep v t s).1.length = s.1.length + (if s.2 % 8 = 0 then 1 else 0) := by
  show ((roomV s.2 s.1).set _ _).length = _
  rw [List.length_set]
  unfold roomV
  split
  · rw [List.length_append]; rfl
  · rfl
def bitsF (v : Int) (K : Nat) (s : List Int × Nat) : Nat → List Int × Nat
  | 0 => s
  | j + 1 => bitStep v (K - 1 - j) (bitsF v K s j)
theorem bits_ws {v : Int} {K : Nat} {s : List Int × Nat} (h : WS s) : ∀ j, WS (bitsF v K s j)
  | 0 => h
  | j + 1 => bit_ws (bits_ws h j)
theorem bits_n {v : Int} {K : Nat} {s : List Int × Nat} : ∀ j, (bitsF v K s j).2 = s.2 + j
  | 0 => rfl
  | j + 1 => by show (bitsF v K s j).2 + 1 = _; rw [bits_n j]; omega
theorem bits_mono {v : Int} {K : Nat} {s : List Int × Nat} : ∀ j, s.1.length ≤ (bitsF v K s j).1.length
  | 0 => Nat.le_refl _
  | j + 1 => by
    have := bits_mono (v := v) (K := K) (s := s) j
    show _ ≤ (bitStep _ _ (bitsF v K s j)).1.length
    rw [bit_len]
    omega
theorem shl_ok (x : Int) {n : Nat} : (7 - ((n % 8 : Nat) : Int)) = ((7 - n % 8 : Nat) : Int) := by omega
/-- A round of Put's loop, where bytes are there: of shape a, and of shape b where room was made. -/
theorem put_round (a b : Nat) (hab : (a = 1 ∧ b = 3) ∨ (a = 2 ∧ b = 2) ∨ (a = 3 ∧ b = 3)) (v : Int) (t n : Nat) (bl : List Int) (e : Int) (h : WS (bl, n)) (hn : n ≤ 100000) (ht : t ≤ 100) :
    f25_0 (a, [.i v, .i t, .n bl.length, .i n, .i e, .l bl]) = some (if n % 8 = 0 then b else a, [.i v, .i ((t : Int) - 1), .n (bitStep v t (bl, n)).1.length, .i (n + 1 : Nat), .i e, .l (bitStep v t (bl, n)).1]) := by
  have h1 : Int.tmod (n : Int) 8 = ((n % 8 : Nat) : Int) := by rw [Int.tmod_eq_emod_of_nonneg (by omega)]; omega
  have h2 : IntKind.i64.wrap (Int.tdiv (n : Int) 8) = ((n / 8 : Nat) : Int) := by rw [Int.tdiv_eq_ediv_of_nonneg (by omega), wrap64 (by omega) (by omega)]; omega
  have h3 : IntKind.i64.wrap (7 - ((n % 8 : Nat) : Int)) = 7 - ((n % 8 : Nat) : Int) := wrap64 (by omega) (by omega)
  have h4 : IntKind.i64.wrap ((n : Int) + 1) = ((n + 1 : Nat) : Int) := wrap_nat (n := n + 1) (by omega)
  have h5 : IntKind.i64.wrap ((t : Int) - 1) = (t : Int) - 1 := wrap64 (by omega) (by omega)
  unfold WS at h
  simp only at h
  have hlen : (bitStep v t (bl, n)).1.length = bl.length + (if n % 8 = 0 then 1 else 0) := bit_len
  have e0 : (bitStep v t (bl, n)).1 = (roomV n bl).set (n / 8) (bitV v t n ((roomV n bl).getD (n / 8) 0)) := rfl
  by_cases c : n % 8 = 0
  · have c' : ((n % 8 : Nat) : Int) = 0 := by omega
    rw [if_pos c] at hlen ⊢
    have er : roomV n bl = bl ++ [0] := by unfold roomV; rw [if_pos c]
    rw [er] at e0
    have hl2 : (bl ++ [0]).length = bl.length + 1 := by simp
    have hx : (bl ++ [0])[n / 8]? = some ((bl ++ [0]).getD (n / 8) 0) := get_some (by omega)
    generalize (bl ++ [0]).getD (n / 8) 0 = x at *
    unfold bitV at e0
    rw [hlen]
    rcases hab with ⟨rfl, rfl⟩ | ⟨rfl, rfl⟩ | ⟨rfl, rfl⟩
    all_goals
      simp -implicitDefEqProofs only [f25_0, f25_0_1, f25_0_2, f25_0_3, asI4_i, asI_i, asN_n, asL_l, asE_nil, Bool.cond_decide, if_pos (show (0 : Int) ≤ t by omega), h1, h2, h3, h4, h5, if_pos c', if_pos (show (bl.length + 1) * 1 ≤ 70368744177664 by omega), if_pos (show bl.length = bl.length * 1 by omega), if_pos (show (0 : Int) ≤ ((n / 8 : Nat) : Int) ∧ ((n / 8 : Nat) : Int) < ((bl.length + 1 : Nat) : Int) by omega), Int.toNat_natCast, hx, optK_some, if_neg (show ¬ (t : Int) < 0 by omega), if_neg (show ¬ (7 - ((n % 8 : Nat) : Int)) < 0 by omega), if_pos (show n / 8 < (bl ++ [0]).length by omega), e0]
  · have c' : ¬ ((n % 8 : Nat) : Int) = 0 := by omega
    rw [if_neg c] at hlen ⊢
    have er : roomV n bl = bl := by unfold roomV; rw [if_neg c]
    rw [er] at e0
    have hx : bl[n / 8]? = some (bl.getD (n / 8) 0) := get_some (by omega)
    generalize bl.getD (n / 8) 0 = x at *
    unfold bitV at e0
    rw [hlen]
    rcases hab with ⟨rfl, rfl⟩ | ⟨rfl, rfl⟩ | ⟨rfl, rfl⟩
    all_goals
      simp -implicitDefEqProofs only [f25_0, f25_0_1, f25_0_2, f25_0_3, asI4_i, asI_i, asN_n, asL_l, asE_nil, Bool.cond_decide, if_pos (show (0 : Int) ≤ t by omega), h1, h2, h3, h4, h5, if_neg c', if_pos (show (0 : Int) ≤ ((n / 8 : Nat) : Int) ∧ ((n / 8 : Nat) : Int) < ((bl.length : Nat) : Int) by omega), Int.toNat_natCast, hx, optK_some, if_neg (show ¬ (t : Int) < 0 by omega), if_neg (show ¬ (7 - ((n % 8 : Nat) : Int)) < 0 by omega), if_pos (show n / 8 < bl.length by omega), e0, Nat.add_zero]
theorem put_first (v : Int) (t : Nat) (e : Int) (ht : t ≤ 100) :
    f25_0 (0, [.i v, .i t, .i 0, .i e]) = some (2, [.i v, .i ((t : Int) - 1), .n 1, .i 1, .i e, .l (bitStep v t ([], 0)).1]) := by
  have h1 : Int.tmod (0 : Int) 8 = 0 := rfl
  have h2 : IntKind.i64.wrap (Int.tdiv (0 : Int) 8) = 0 := by decide
  have h3 : IntKind.i64.wrap (7 - (0 : Int)) = 7 - ((0 % 8 : Nat) : Int) := by decide
  have h4 : IntKind.i64.wrap ((0 : Int) + 1) = 1 := by decide
  have h5 : IntKind.i64.wrap ((t : Int) - 1) = (t : Int) - 1 := wrap64 (by omega) (by omega)
  have e0 : (bitStep v t ([], 0)).1 = ([0] : List Int).set (Int.toNat 0) (bitV v t 0 0) := rfl
  have hx : ([0] : List Int)[Int.toNat 0]? = some 0 := rfl
  unfold bitV at e0
  have h7 : ¬ (7 - ((0 % 8 : Nat) : Int)) < 0 := by decide
  simp -implicitDefEqProofs only [f25_0, f25_0_0, asI4_i, asI_i, asE_nil, Bool.cond_decide, if_pos (show (0 : Int) ≤ t by omega), h1, if_true, h2, if_pos (show (0 : Int) ≤ 0 ∧ (0 : Int) < ((1 : Nat) : Int) by omega), hx, optK_some, if_neg (show ¬ (t : Int) < 0 by omega), h3, h4, h5, if_neg h7, if_pos (show Int.toNat 0 < 1 by decide), e0]
/-- What a writer is: its bytes, how many bits, its error. -/
abbrev Wr := List Int × Nat × Int
def wrV (K : Int) (s : Wr) (v : Int) : Wr :=
  if s.2.2 ≠ 0 then s
  else if K < 0 ∨ 57 < K ∨ shrI .u64 v K ≠ 0 then (s.1, s.2.1, 5)
  else ((bitsF v K.toNat (s.1, s.2.1) K.toNat).1, (bitsF v K.toNat (s.1, s.2.1) K.toNat).2, 0)
def WOk (m : Nat) (s : Wr) : Prop := WS (s.1, s.2.1) ∧ s.2.1 ≤ m
theorem wr_ok {K : Int} {s : Wr} {v : Int} {m : Nat} (h : WOk m s) : WOk (m + 57) (wrV K s v) := by
  unfold wrV
  split
  · exact ⟨h.1, by have := h.2; omega⟩
  · split
    · exact ⟨h.1, by have := h.2; show s.2.1 ≤ _; omega⟩
    · rename_i q
      have hb := bits_ws (v := v) (K := K.toNat) h.1 K.toNat
      refine ⟨hb, ?_⟩
      show (bitsF v K.toNat (s.1, s.2.1) K.toNat).2 ≤ _
      rw [bits_n]
      have := h.2
      show s.2.1 + _ ≤ _
      omega
theorem wr_mono {K : Int} {s : Wr} {v : Int} : s.1.length ≤ (wrV K s v).1.length := by
  unfold wrV
  split
  · exact Nat.le_refl _
  · split
    · exact Nat.le_refl _
    · exact bits_mono (s := (s.1, s.2.1)) _
/-- Put, of a writer with bytes. -/
theorem put_1 (K v : Int) (s : Wr) (h : WOk 90000 s) : ∃ j, (j = 1 ∨ j = 2) ∧
    g25 (1, [.i v, .i K, .n s.1.length, .i s.2.1, .i s.2.2, .l s.1]) = some (j, [.n (wrV K s v).1.length, .i (wrV K s v).2.1, .i (wrV K s v).2.2, .l (wrV K s v).1]) := by
  obtain ⟨bl, n, e⟩ := s
  obtain ⟨hw, hn⟩ := h
  simp only at hw hn
  by_cases c0 : e ≠ 0
  · have ev : wrV K (bl, n, e) v = (bl, n, e) := by unfold wrV; rw [if_pos c0]
    rw [ev]
    exact ⟨1, Or.inl rfl, by simp -implicitDefEqProofs only [g25, g25_1, asI4_i, asI_i, asN_n, asL_l, asE_nil, Bool.cond_decide, if_pos c0]⟩
  · have c0' : e = 0 := by omega
    subst c0'
    by_cases c1 : K < 0
    · have ev : wrV K (bl, n, 0) v = (bl, n, 5) := by unfold wrV; rw [if_neg c0, if_pos (Or.inl c1)]
      rw [ev]
      exact ⟨1, Or.inl rfl, by simp -implicitDefEqProofs only [g25, g25_1, asI4_i, asI_i, asN_n, asL_l, asE_nil, Bool.cond_decide, if_neg c0, if_pos c1]⟩
    · by_cases c2 : 57 < K
      · have ev : wrV K (bl, n, 0) v = (bl, n, 5) := by unfold wrV; rw [if_neg c0, if_pos (Or.inr (Or.inl c2))]
        rw [ev]
        exact ⟨1, Or.inl rfl, by simp -implicitDefEqProofs only [g25, g25_1, asI4_i, asI_i, asN_n, asL_l, asE_nil, Bool.cond_decide, if_neg c0, if_neg c1, if_pos c2]⟩
      · by_cases c3 : shrI .u64 v K ≠ 0
        · have ev : wrV K (bl, n, 0) v = (bl, n, 5) := by unfold wrV; rw [if_neg c0, if_pos (Or.inr (Or.inr c3))]
          rw [ev]
          exact ⟨1, Or.inl rfl, by simp -implicitDefEqProofs only [g25, g25_1, asI4_i, asI_i, asN_n, asL_l, asE_nil, Bool.cond_decide, if_neg c0, if_neg c1, if_neg c2, if_pos c3]⟩
        · obtain ⟨k, rfl⟩ : ∃ k : Nat, K = k := ⟨K.toNat, by omega⟩
          have ev : wrV k (bl, n, 0) v = ((bitsF v k (bl, n) k).1, (bitsF v k (bl, n) k).2, 0) := by unfold wrV; rw [if_neg c0, if_neg (by intro q; rcases q with q | q | q; exact c1 q; exact c2 q; exact c3 q)]; rfl
          have w1 : IntKind.i64.wrap ((k : Int) - 1) = (k : Int) - 1 := wrap64 (by omega) (by omega)
          have hf : (bitsF v k (bl, n) k).2 = n + k := bits_n k
          have hl : L25_0 (1, [.i v, .i ((k : Int) - 1), .n bl.length, .i n, .i 0, .l bl]) = some (if (bitsF v k (bl, n) k).1.length = bl.length then 1 else 3, [.n (bitsF v k (bl, n) k).1.length, .i (n + k : Nat), .i 0, .l (bitsF v k (bl, n) k).1]) := by
            have main := loopL_run (m := 4) (f := f25_0) (fun j => (if (bitsF v k (bl, n) j).1.length = bl.length then 1 else 3, [.i v, .i ((k : Int) - 1 - j), .n (bitsF v k (bl, n) j).1.length, .i (n + j : Nat), .i 0, .l (bitsF v k (bl, n) j).1])) k (j := if (bitsF v k (bl, n) k).1.length = bl.length then 1 else 3) (r := [.n (bitsF v k (bl, n) k).1.length, .i (n + k : Nat), .i 0, .l (bitsF v k (bl, n) k).1]) (fun j hj => ⟨?_, by show (if _ then 1 else 3) < 4; split <;> omega⟩) ?_ (by omega)
            · unfold L25_0
              have z : (if (bitsF v k (bl, n) 0).1.length = bl.length then 1 else 3) = 1 := if_pos rfl
              simp only [z, Int.ofNat_zero, Int.sub_zero, Nat.add_zero] at main
              simpa [bitsF] using main
            · have hws : WS ((bitsF v k (bl, n) j).1, n + j) := by have := bits_ws (v := v) (K := k) hw j; rw [← bits_n (v := v) (K := k) (s := (bl, n)) j]; exact this
              have hm := bits_mono (v := v) (K := k) (s := (bl, n)) j
              simp only at hm
              have et : ((k : Int) - 1 - j) = ((k - 1 - j : Nat) : Int) := by omega
              have es : bitsF v k (bl, n) (j + 1) = bitStep v (k - 1 - j) ((bitsF v k (bl, n) j).1, n + j) := by show bitStep _ _ (bitsF v k (bl, n) j) = _; congr 1; exact Prod.ext rfl (bits_n j)
              have el : (bitsF v k (bl, n) (j + 1)).1.length = (bitsF v k (bl, n) j).1.length + (if (n + j) % 8 = 0 then 1 else 0) := by rw [es]; exact bit_len
              simp only [et]
              rw [show ((k : Int) - 1 - ((j + 1 : Nat) : Int)) = ((k - 1 - j : Nat) : Int) - 1 by omega]
              by_cases q : (bitsF v k (bl, n) j).1.length = bl.length
              · rw [if_pos q]
                have := put_round 1 3 (Or.inl ⟨rfl, rfl⟩) v (k - 1 - j) (n + j) (bitsF v k (bl, n) j).1 0 hws (by omega) (by omega)
                rw [this, ← es, Nat.add_assoc]
                congr 2
                by_cases c : (n + j) % 8 = 0
                · rw [if_pos c] at el ⊢
                  rw [if_neg (by omega)]
                · rw [if_neg c] at el ⊢
                  rw [if_pos (by omega)]
              · rw [if_neg q]
                have := put_round 3 3 (Or.inr (Or.inr ⟨rfl, rfl⟩)) v (k - 1 - j) (n + j) (bitsF v k (bl, n) j).1 0 hws (by omega) (by omega)
                rw [this, ← es, Nat.add_assoc]
                have z : (if (bitsF v k (bl, n) (j + 1)).1.length = bl.length then 1 else 3) = 3 := if_neg (by split at el <;> omega)
                rw [z]
                congr 2
                split <;> rfl
            · have et : ((k : Int) - 1 - k) = -1 := by omega
              simp only [et]
              by_cases q : (bitsF v k (bl, n) k).1.length = bl.length
              · rw [if_pos q]
                simp -implicitDefEqProofs only [f25_0, f25_0_1, asI4_i, asI_i, asN_n, asL_l, asE_nil, Bool.cond_decide, if_neg (show ¬ (0 : Int) ≤ -1 by omega)]
              · rw [if_neg q]
                simp -implicitDefEqProofs only [f25_0, f25_0_3, asI4_i, asI_i, asN_n, asL_l, asE_nil, Bool.cond_decide, if_neg (show ¬ (0 : Int) ≤ -1 by omega)]
          rw [ev]
          simp only
          rw [hf]
          by_cases q : (bitsF v k (bl, n) k).1.length = bl.length
          · rw [if_pos q] at hl
            exact ⟨1, Or.inl rfl, by simp -implicitDefEqProofs only [g25, g25_1, asI4_i, asI_i, asN_n, asL_l, asE_nil, Bool.cond_decide, if_neg c0, if_neg c1, if_neg c2, if_neg c3, w1, hl, altK_1]⟩
          · rw [if_neg q] at hl
            exact ⟨2, Or.inr rfl, by simp -implicitDefEqProofs only [g25, g25_1, asI4_i, asI_i, asN_n, asL_l, asE_nil, Bool.cond_decide, if_neg c0, if_neg c1, if_neg c2, if_neg c3, w1, hl, altK_3]⟩
/-- Put, of a writer that has laid nothing. -/
theorem put_0 (K v e : Int) :
    g25 (0, [.i v, .i K, .i 0, .i e]) = some (if (wrV K ([], 0, e) v).1.length = 0 then (0, [.i (wrV K ([], 0, e) v).2.1, .i (wrV K ([], 0, e) v).2.2]) else (1, [.n (wrV K ([], 0, e) v).1.length, .i (wrV K ([], 0, e) v).2.1, .i (wrV K ([], 0, e) v).2.2, .l (wrV K ([], 0, e) v).1])) := by
  by_cases c0 : e ≠ 0
  · have ev : wrV K ([], 0, e) v = ([], 0, e) := by unfold wrV; rw [if_pos c0]
    rw [ev]
    refine Eq.trans ?_ (congrArg some (if_pos (show ([] : List Int).length = 0 from rfl)).symm)
    simp -implicitDefEqProofs only [g25, g25_0, asI4_i, asI_i, asE_nil, Bool.cond_decide, if_pos c0] <;> rfl
  · have c0' : e = 0 := by omega
    subst c0'
    by_cases c1 : K < 0
    · have ev : wrV K ([], 0, 0) v = ([], 0, 5) := by unfold wrV; rw [if_neg c0, if_pos (Or.inl c1)]
      rw [ev]
      refine Eq.trans ?_ (congrArg some (if_pos (show ([] : List Int).length = 0 from rfl)).symm)
      simp -implicitDefEqProofs only [g25, g25_0, asI4_i, asI_i, asE_nil, Bool.cond_decide, if_neg c0, if_pos c1] <;> rfl
    · by_cases c2 : 57 < K
      · have ev : wrV K ([], 0, 0) v = ([], 0, 5) := by unfold wrV; rw [if_neg c0, if_pos (Or.inr (Or.inl c2))]
        rw [ev]
        refine Eq.trans ?_ (congrArg some (if_pos (show ([] : List Int).length = 0 from rfl)).symm)
        simp -implicitDefEqProofs only [g25, g25_0, asI4_i, asI_i, asE_nil, Bool.cond_decide, if_neg c0, if_neg c1, if_pos c2] <;> rfl
      · by_cases c3 : shrI .u64 v K ≠ 0
        · have ev : wrV K ([], 0, 0) v = ([], 0, 5) := by unfold wrV; rw [if_neg c0, if_pos (Or.inr (Or.inr c3))]
          rw [ev]
          refine Eq.trans ?_ (congrArg some (if_pos (show ([] : List Int).length = 0 from rfl)).symm)
          simp -implicitDefEqProofs only [g25, g25_0, asI4_i, asI_i, asE_nil, Bool.cond_decide, if_neg c0, if_neg c1, if_neg c2, if_pos c3] <;> rfl
        · obtain ⟨k, rfl⟩ : ∃ k : Nat, K = k := ⟨K.toNat, by omega⟩
          have ev : wrV k ([], 0, 0) v = ((bitsF v k ([], 0) k).1, (bitsF v k ([], 0) k).2, 0) := by unfold wrV; rw [if_neg c0, if_neg (by intro q; rcases q with q | q | q; exact c1 q; exact c2 q; exact c3 q)]; rfl
          have w1 : IntKind.i64.wrap ((k : Int) - 1) = (k : Int) - 1 := wrap64 (by omega) (by omega)
          have hf : (bitsF v k ([], 0) k).2 = k := by rw [bits_n]; exact Nat.zero_add _
          have hw : WS (([] : List Int), 0) := rfl
          rw [ev]
          simp only
          rw [hf]
          by_cases hk : k = 0
          · subst hk
            have hl : L25_0 (0, [.i v, .i (((0 : Nat) : Int) - 1), .i 0, .i 0]) = some (0, [.i 0, .i 0]) := loopL_last (m := 4) (f := f25_0) (j := 0) (by
              simp -implicitDefEqProofs only [f25_0, f25_0_0, asI4_i, asI_i, asE_nil, Bool.cond_decide, if_neg (show ¬ (0 : Int) ≤ ((0 : Nat) : Int) - 1 by omega)])
            refine Eq.trans ?_ (congrArg some (if_pos (show ([] : List Int).length = 0 from rfl)).symm)
            simp -implicitDefEqProofs only [g25, g25_0, asI4_i, asI_i, asE_nil, Bool.cond_decide, if_neg c0, if_neg c1, if_neg c2, if_neg c3, w1, hl, altK_0] <;> rfl
          · have h1 : 1 ≤ (bitsF v k ([], 0) 1).1.length := by
              show 1 ≤ (bitStep v (k - 1 - 0) ([], 0)).1.length
              rw [bit_len]; show 1 ≤ 0 + 1; omega
            have hl : L25_0 (0, [.i v, .i ((k : Int) - 1), .i 0, .i 0]) = some (2, [.n (bitsF v k ([], 0) k).1.length, .i (k : Nat), .i 0, .l (bitsF v k ([], 0) k).1]) := by
              have main := loopL_run (m := 4) (f := f25_0) (fun j => if j = 0 then (0, [.i v, .i ((k : Int) - 1), .i 0, .i 0]) else (2, [.i v, .i ((k : Int) - 1 - j), .n (bitsF v k ([], 0) j).1.length, .i (j : Nat), .i 0, .l (bitsF v k ([], 0) j).1])) k (j := 2) (r := [.n (bitsF v k ([], 0) k).1.length, .i (k : Nat), .i 0, .l (bitsF v k ([], 0) k).1]) (fun j hj => ?_) ?_ (by omega)
              · unfold L25_0; exact main
              · simp only [Nat.succ_ne_zero, if_false]
                refine ⟨?_, by show 2 < 4; omega⟩
                have et : ((k : Int) - 1 - j) = ((k - 1 - j : Nat) : Int) := by omega
                have e2 : ((k : Int) - 1 - ((j + 1 : Nat) : Int)) = ((k - 1 - j : Nat) : Int) - 1 := by omega
                by_cases q : j = 0
                · subst q
                  rw [if_pos rfl, e2, show ((k : Int) - 1) = ((k - 1 - 0 : Nat) : Int) by omega, put_first v (k - 1 - 0) 0 (by omega)]
                  have el : (bitsF v k ([], 0) (0 + 1)).1.length = 1 := by show (bitStep v (k - 1 - 0) ([], 0)).1.length = 1; rw [bit_len]; rfl
                  rw [el] <;> rfl
                · rw [if_neg q, et, e2]
                  have hws : WS ((bitsF v k ([], 0) j).1, j) := by have := bits_ws (v := v) (K := k) hw j; have e3 := bits_n (v := v) (K := k) (s := (([] : List Int), 0)) j; rw [show (([] : List Int), 0).2 + j = j from Nat.zero_add _] at e3; rw [show ((bitsF v k ([], 0) j).1, j) = bitsF v k ([], 0) j from Prod.ext rfl e3.symm]; exact this
                  have es : bitsF v k ([], 0) (j + 1) = bitStep v (k - 1 - j) ((bitsF v k ([], 0) j).1, j) := by show bitStep _ _ (bitsF v k ([], 0) j) = _; congr 1; exact Prod.ext rfl ((bits_n j).trans (Nat.zero_add _))
                  have := put_round 2 2 (Or.inr (Or.inl ⟨rfl, rfl⟩)) v (k - 1 - j) j (bitsF v k ([], 0) j).1 0 hws (by omega) (by omega)
                  rw [this, ← es]
                  split <;> rfl
              · rw [if_neg hk, show ((k : Int) - 1 - k) = -1 by omega]
                simp -implicitDefEqProofs only [f25_0, f25_0_2, asI4_i, asI_i, asN_n, asL_l, asE_nil, Bool.cond_decide, if_neg (show ¬ (0 : Int) ≤ -1 by omega)]
            have hpos : ¬ (bitsF v k ([], 0) k).1.length = 0 := by
              have hb := bits_ws (v := v) (K := k) hw k
              unfold WS at hb
              rw [hf] at hb
              omega
            rw [if_neg hpos]
            simp -implicitDefEqProofs only [g25, g25_0, asI4_i, asI_i, asN_n, asL_l, asE_nil, Bool.cond_decide, if_neg c0, if_neg c1, if_neg c2, if_neg c3, w1, hl, altK_2]
/-! ### Bits behind bytes -/
theorem step_pack {v : Int} (h0 : 0 ≤ v) (h1 : v ≤ 18446744073709551615) {t : Nat} (ht : t ≤ 64) {A : List Int} (hA : B01 A) :
    bitStep v t (packL A ((A.length + 7) / 8), A.length) = (packL (A ++ [bv v t]) ((A.length + 1 + 7) / 8), A.length + 1) := by
  have er : roomV A.length (packL A ((A.length + 7) / 8)) = packL A ((A.length + 1 + 7) / 8) := by
    unfold roomV
    by_cases c : A.length % 8 = 0
    · rw [if_pos c, pack_more (by omega), show (A.length + 7) / 8 + 1 = (A.length + 1 + 7) / 8 by omega]
    · rw [if_neg c, show (A.length + 7) / 8 = (A.length + 1 + 7) / 8 by omega]
  show ((roomV A.length (packL A ((A.length + 7) / 8))).set (A.length / 8) (bitV v t A.length ((roomV A.length (packL A ((A.length + 7) / 8))).getD (A.length / 8) 0)), A.length + 1) = _
  rw [er]
  have hlt : A.length / 8 < (A.length + 1 + 7) / 8 := by omega
  have hg : (packL A ((A.length + 1 + 7) / 8)).getD (A.length / 8) 0 = byteV A (A.length / 8) := by
    rw [List.getD_eq_getElem?_getD, pack_get A hlt]; rfl
  rw [hg]
  have hs : A.length = 8 * (A.length / 8) + A.length % 8 := by omega
  have hs8 : A.length % 8 < 8 := by omega
  have hx := byte_in hA (A.length / 8)
  have e : bitV v t A.length (byteV A (A.length / 8)) = byteV (A ++ [bv v t]) (A.length / 8) := by
    unfold bitV
    rw [bit_val h0 h1 ht, or_byte hx.1 hx.2 hs8 (bv_01 v t) (byte_low hA hs hs8), byte_own hs hs8]
  rw [e, pack_set hlt rfl]
theorem bits_pack {v : Int} (h0 : 0 ≤ v) (h1 : v ≤ 18446744073709551615) {K : Nat} (hK : K ≤ 64) {A : List Int} (hA : B01 A) : ∀ j, j ≤ K →
    bitsF v K (packL A ((A.length + 7) / 8), A.length) j = (packL (A ++ topL v K j) ((A.length + j + 7) / 8), A.length + j)
  | 0, _ => by show _ = (packL (A ++ []) _, _); rw [List.append_nil]; rfl
  | j + 1, hj => by
    show bitStep v (K - 1 - j) (bitsF v K (packL A ((A.length + 7) / 8), A.length) j) = _
    rw [bits_pack h0 h1 hK hA j (by omega)]
    have hl : (A ++ topL v K j).length = A.length + j := by rw [List.length_append, topL_len]
    have := step_pack h0 h1 (t := K - 1 - j) (by omega) (b01_app hA (topL_01 v K j))
    rw [hl] at this
    rw [this, List.append_assoc]
    rfl
/-- A writer that has laid these bits. -/
def wr (A : List Int) (e : Int) : Wr := (packL A ((A.length + 7) / 8), A.length, e)
theorem wr_ok0 {A : List Int} {e : Int} {m : Nat} (h : A.length ≤ m) : WOk m (wr A e) := by
  refine ⟨?_, h⟩
  show (packL A _).length = _
  rw [pack_len]; rfl
def wput (A : List Int) (e K v : Int) : List Int × Int := if e ≠ 0 then (A, e) else if K < 0 ∨ 57 < K ∨ pw K.toNat ≤ v then (A, 5) else (A ++ topL v K.toNat K.toNat, 0)
theorem wput_eq {v : Int} (h0 : 0 ≤ v) (h1 : v ≤ 18446744073709551615) {A : List Int} (hA : B01 A) (e K : Int) : wrV K (wr A e) v = wr (wput A e K v).1 (wput A e K v).2 := by
  unfold wrV wput
  by_cases c : e ≠ 0
  · rw [if_pos c, if_pos (show (wr A e).2.2 ≠ 0 from c)]
  · obtain rfl := Classical.not_not.1 c
    rw [if_neg c, if_neg (show ¬ (wr A 0).2.2 ≠ 0 from c)]
    have hk : ¬ K < 0 → ¬ 57 < K → (shrI .u64 v K ≠ 0 ↔ pw K.toNat ≤ v) := fun q1 q2 => by
      obtain ⟨k, rfl⟩ : ∃ k : Nat, K = k := ⟨K.toNat, by omega⟩
      rw [shrU k (by omega), Int.toNat_natCast]
      have hp := pw_pos k
      constructor
      · intro q
        apply Int.not_lt.1
        intro r
        exact q (Int.ediv_eq_zero_of_lt h0 r)
      · intro q r
        have := (Int.le_ediv_iff_mul_le (a := 1) (b := v) (c := pw k) (by omega)).2 (by omega)
        omega
    by_cases c1 : K < 0 ∨ 57 < K ∨ pw K.toNat ≤ v
    · rw [if_pos c1, if_pos]
      · rfl
      · by_cases q1 : K < 0
        · exact Or.inl q1
        · by_cases q2 : 57 < K
          · exact Or.inr (Or.inl q2)
          · exact Or.inr (Or.inr ((hk q1 q2).2 (by rcases c1 with c1 | c1 | c1; exact absurd c1 q1; exact absurd c1 q2; exact c1)))
    · rw [if_neg c1, if_neg]
      · have q1 : ¬ K < 0 := fun q => c1 (Or.inl q)
        have q2 : ¬ 57 < K := fun q => c1 (Or.inr (Or.inl q))
        have hb := bits_pack h0 h1 (K := K.toNat) (by omega) hA K.toNat (Nat.le_refl _)
        show ((bitsF v K.toNat (packL A ((A.length + 7) / 8), A.length) K.toNat).1, (bitsF v K.toNat (packL A ((A.length + 7) / 8), A.length) K.toNat).2, (0 : Int)) = wr (A ++ topL v K.toNat K.toNat) 0
        rw [hb]
        unfold wr
        rw [List.length_append, topL_len]
      · have q1 : ¬ K < 0 := fun q => c1 (Or.inl q)
        have q2 : ¬ 57 < K := fun q => c1 (Or.inr (Or.inl q))
        rintro (q | q | q)
        · exact q1 q
        · exact q2 q
        · exact c1 (Or.inr (Or.inr ((hk q1 q2).1 q)))
theorem wput_01 {A : List Int} (hA : B01 A) (e K v : Int) : B01 (wput A e K v).1 := by
  unfold wput
  (repeat' split)
  · exact hA
  · exact hA
  · exact b01_app hA (topL_01 _ _ _)
theorem wput_len (A : List Int) (e K v : Int) : A.length ≤ (wput A e K v).1.length ∧ (wput A e K v).1.length ≤ A.length + 57 := by
  unfold wput
  (repeat' split)
  · exact ⟨Nat.le_refl _, by show A.length ≤ A.length + 57; omega⟩
  · exact ⟨Nat.le_refl _, by show A.length ≤ A.length + 57; omega⟩
  · rename_i q
    show A.length ≤ (A ++ _).length ∧ (A ++ _).length ≤ _
    rw [List.length_append, topL_len]
    omega
/-- Does a number fit so many bits, with its sign? -/
def fitP (V : Int) (k : Nat) : Bool := if k = 0 then decide (V = 0) else decide (-pw (k - 1) ≤ V ∧ V < pw (k - 1))
theorem pw_56 {k : Nat} (h : k ≤ 56) : pw k ≤ 72057594037927936 := by
  have := pw_le h
  have e : pw 56 = 72057594037927936 := rfl
  omega
theorem Fits_ok (V : Int) (k : Nat) (hk : k ≤ 57) : g20 (0, [.i V, .i k]) = some (0, [.b (fitP V k)]) := by
  unfold fitP
  by_cases h0 : k = 0
  · rw [if_pos h0]
    simp -implicitDefEqProofs only [g20, g20_0, asI4_i, asI_i, asE_nil, Bool.cond_decide, if_pos (show (k : Int) ≤ 0 by omega)]
  · rw [if_neg h0]
    have hp := pw_pos (k - 1)
    have hq := pw_56 (k := k - 1) (by omega)
    have w1 : IntKind.i64.wrap ((k : Int) - 1) = ((k - 1 : Nat) : Int) := by rw [wrap64 (by omega) (by omega)]; omega
    have s1 := shl_pw (k := k - 1) (by omega)
    have s2 : shlI .i64 (-1) ((k - 1 : Nat) : Int) = -pw (k - 1) := by
      unfold shlI
      rw [show min (Int.toNat ((k - 1 : Nat) : Int)) IntKind.i64.bits = k - 1 by show min (k - 1) 64 = k - 1; omega, pw_int, show (-1) * pw (k - 1) = -pw (k - 1) by omega]
      exact wrap64 (by omega) (by omega)
    by_cases c : -pw (k - 1) ≤ V
    · simp -implicitDefEqProofs only [g20, g20_0, asI4_i, asI_i, asE_nil, Bool.cond_decide, if_neg (show ¬ (k : Int) ≤ 0 by omega), if_neg (show ¬ (63 : Int) < k by omega), w1, if_neg (show ¬ ((k - 1 : Nat) : Int) < 0 by omega), s1, s2, c, true_and, if_true]
    · simp -implicitDefEqProofs only [g20, g20_0, asI4_i, asI_i, asE_nil, Bool.cond_decide, if_neg (show ¬ (k : Int) ≤ 0 by omega), if_neg (show ¬ (63 : Int) < k by omega), w1, if_neg (show ¬ ((k - 1 : Nat) : Int) < 0 by omega), s1, s2, c, false_and, decide_false, if_false]
/-- Has an item bits? And which number they are. -/
def okI (sg : Bool) (V K : Int) : Bool := if K < 0 then false else if 57 < K then false else if sg = true then fitP V K.toNat else decide (0 ≤ V ∧ V < pw K.toNat)
def vlI (V K : Int) : Int := if V < 0 then V + pw K.toNat else V
theorem okI_K {sg : Bool} {V K : Int} (h : okI sg V K = true) : 0 ≤ K ∧ K ≤ 57 := by
  unfold okI at h
  split at h
  · cases h
  · split at h
    · cases h
    · omega
theorem okI_val {sg : Bool} {V K : Int} (h : okI sg V K = true) : 0 ≤ vlI V K ∧ vlI V K < pw K.toNat := by
  have hK := okI_K h
  unfold okI at h
  rw [if_neg (by omega), if_neg (by omega)] at h
  unfold vlI
  cases sg with
  | false =>
    rw [if_neg (by decide), decide_eq_true_eq] at h
    rw [if_neg (by omega)]
    exact h
  | true =>
    rw [if_pos rfl] at h
    unfold fitP at h
    by_cases h0 : K.toNat = 0
    · rw [if_pos h0, decide_eq_true_eq] at h
      rw [if_neg (by omega), h0]
      exact ⟨by omega, by rw [h, pw_0]; omega⟩
    · rw [if_neg h0, decide_eq_true_eq] at h
      have e := pw_succ (K.toNat - 1)
      rw [show K.toNat - 1 + 1 = K.toNat by omega] at e
      have hp := pw_pos (K.toNat - 1)
      by_cases c : V < 0
      · rw [if_pos c]; omega
      · rw [if_neg c]; omega
/-! ### Put, of a writer that has laid bits -/
def WL (A : List Int) (e : Int) : List Leaf := [.n ((A.length + 7) / 8), .i A.length, .i e, .l (packL A ((A.length + 7) / 8))]
theorem put0 {v : Int} (h0 : 0 ≤ v) (h1 : v ≤ 18446744073709551615) (e K : Int) :
    g25 (0, [.i v, .i K, .i 0, .i e]) = some (if (wput [] e K v).1.length = 0 then (0, [.i 0, .i (wput [] e K v).2]) else (1, WL (wput [] e K v).1 (wput [] e K v).2)) := by
  have h := put_0 K v e
  have w := wput_eq h0 h1 (A := []) (fun x hx => by cases hx) e K
  rw [show wr [] e = ([], 0, e) from rfl] at w
  rw [h, w]
  generalize wput [] e K v = q
  obtain ⟨A', e'⟩ := q
  show some (if (packL A' ((A'.length + 7) / 8)).length = 0 then (0, [.i ((A'.length : Nat) : Int), .i e']) else (1, [.n (packL A' ((A'.length + 7) / 8)).length, .i ((A'.length : Nat) : Int), .i e', .l (packL A' ((A'.length + 7) / 8))])) = some (if A'.length = 0 then (0, [.i 0, .i e']) else (1, WL A' e'))
  rw [pack_len]
  by_cases c : A'.length = 0
  · rw [if_pos c, if_pos (by omega), c]; rfl
  · rw [if_neg c, if_neg (by omega)]; rfl
theorem put1 {v : Int} (h0 : 0 ≤ v) (h1 : v ≤ 18446744073709551615) {A : List Int} (hA : B01 A) (hl : A.length ≤ 90000) (e K : Int) : ∃ j, (j = 1 ∨ j = 2) ∧
    g25 (1, .i v :: .i K :: WL A e) = some (j, WL (wput A e K v).1 (wput A e K v).2) := by
  obtain ⟨j, hj, h⟩ := put_1 K v (wr A e) (wr_ok0 hl)
  have w := wput_eq h0 h1 hA e K
  refine ⟨j, hj, ?_⟩
  rw [w] at h
  generalize wput A e K v = q at *
  obtain ⟨A', e'⟩ := q
  have h' : g25 (1, [.i v, .i K, .n (packL A ((A.length + 7) / 8)).length, .i ((A.length : Nat) : Int), .i e, .l (packL A ((A.length + 7) / 8))]) = some (j, [.n (packL A' ((A'.length + 7) / 8)).length, .i ((A'.length : Nat) : Int), .i e', .l (packL A' ((A'.length + 7) / 8))]) := h
  rw [pack_len, pack_len] at h'
  exact h'
/-! ### An item -/
def wlay (A : List Int) (e : Int) (sg : Bool) (V K : Int) : List Int × Int := if e ≠ 0 then (A, e) else if okI sg V K = true then (A ++ topL (vlI V K) K.toNat K.toNat, 0) else (A, 5)
theorem wlay_01 {A : List Int} (hA : B01 A) (e : Int) (sg : Bool) (V K : Int) : B01 (wlay A e sg V K).1 := by
  unfold wlay
  (repeat' split)
  · exact hA
  · exact b01_app hA (topL_01 _ _ _)
  · exact hA
theorem pw_add (a b : Nat) : pw (a + b) = pw a * pw b := by
  unfold pw
  rw [Nat.pow_add]
  simp
theorem wu_val {V : Int} (h1 : -9223372036854775808 ≤ V) (h2 : V ≤ 9223372036854775807) : IntKind.u64.wrap V = if V < 0 then V + 18446744073709551616 else V := by
  rw [show IntKind.u64.wrap V = V % 18446744073709551616 from rfl]
  split <;> omega
theorem and_val {V : Int} (h1 : -9223372036854775808 ≤ V) (h2 : V ≤ 9223372036854775807) {k : Nat} (hk : k ≤ 57) (hf : fitP V k = true) :
    bAnd .u64 (IntKind.u64.wrap V) (IntKind.u64.wrap (shlI .u64 1 (k : Int) - 1)) = vlI V k := by
  have hp := pw_pos k
  have hq := pw_57 hk
  have s1 : shlI .u64 1 (k : Int) = pw k := by
    unfold shlI
    rw [show min (Int.toNat (k : Int)) IntKind.u64.bits = k by show min k 64 = k; omega, pw_int, Int.one_mul]
    exact wrapU (by omega) (by omega)
  have hw := wu_val h1 h2
  rw [s1, wrapU (x := pw k - 1) (by omega) (by omega), andpw (by rw [hw]; split <;> omega) (by rw [hw]; split <;> omega) hk, hw]
  have hok : okI true V k = true := by unfold okI; rw [if_neg (by omega), if_neg (by omega), if_pos rfl, Int.toNat_natCast]; exact hf
  have hv := okI_val hok
  rw [Int.toNat_natCast] at hv
  unfold vlI at *
  rw [Int.toNat_natCast] at *
  by_cases c : V < 0
  · rw [if_pos c] at hv ⊢
    rw [if_pos c]
    have e : (18446744073709551616 : Int) = pw k * pw (64 - k) := by rw [← pw_add, show k + (64 - k) = 64 by omega]; rfl
    have e2 : pw k * pw (64 - k) = pw k + pw k * (pw (64 - k) - 1) := by rw [Int.mul_sub, Int.mul_one]; omega
    rw [e, e2, ← Int.add_assoc, Int.add_mul_emod_self_left]
    exact Int.emod_eq_of_lt hv.1 hv.2
  · rw [if_neg c] at hv ⊢
    rw [if_neg c]
    exact Int.emod_eq_of_lt hv.1 hv.2
theorem wput_lay_sg {A : List Int} {e V K : Int} (h : okI true V K = true) : wput A e K (vlI V K) = wlay A e true V K := by
  have hK := okI_K h
  have hv := okI_val h
  unfold wput wlay
  by_cases c : e ≠ 0
  · rw [if_pos c, if_pos c]
  · rw [if_neg c, if_neg c, if_pos h, if_neg]
    rintro (q | q | q) <;> omega
theorem wput_lay_un {A : List Int} {e V K : Int} (h1 : -9223372036854775808 ≤ V) (h2 : V ≤ 9223372036854775807) : wput A e K (IntKind.u64.wrap V) = wlay A e false V K := by
  have hw := wu_val h1 h2
  unfold wput wlay
  by_cases c : e ≠ 0
  · rw [if_pos c, if_pos c]
  · rw [if_neg c, if_neg c, hw]
    unfold okI vlI
    by_cases k1 : K < 0
    · rw [if_pos (Or.inl k1), if_pos k1, if_neg Bool.false_ne_true]
    · by_cases k2 : 57 < K
      · rw [if_pos (Or.inr (Or.inl k2)), if_neg k1, if_pos k2, if_neg Bool.false_ne_true]
      · rw [if_neg k1, if_neg k2]
        simp only [Bool.false_eq_true, if_false]
        have hq := pw_57 (k := K.toNat) (by omega)
        by_cases v1 : V < 0
        · rw [if_pos v1, if_pos (Or.inr (Or.inr (by omega))), if_neg (by rw [decide_eq_true_eq]; omega)]
        · rw [if_neg v1]
          by_cases v2 : V < pw K.toNat
          · rw [if_neg (by rintro (q | q | q) <;> omega), if_pos (by rw [decide_eq_true_eq]; omega), if_neg v1]
          · rw [if_pos (Or.inr (Or.inr (by omega))), if_neg (by rw [decide_eq_true_eq]; omega)]
/-! ### The document's bits of an item -/
/-! ### The writer lays an item -/
theorem wlay_bad {A : List Int} {e V K : Int} {sg : Bool} (h : okI sg V K = false) : wlay A e sg V K = (A, if e = 0 then 5 else e) := by
  unfold wlay
  by_cases c : e ≠ 0
  · rw [if_pos c, if_neg c]
  · rw [if_neg c, if_neg (by rw [h]; decide), if_pos (Classical.not_not.1 c)]
theorem sgn0 (e V K : Int) (h1 : -9223372036854775808 ≤ V) (h2 : V ≤ 9223372036854775807) :
    g26 (0, [.i V, .i K, .i 0, .i e]) = some (if (wlay [] e true V K).1.length = 0 then (0, [.i 0, .i (wlay [] e true V K).2]) else (1, WL (wlay [] e true V K).1 (wlay [] e true V K).2)) := by
  by_cases ok : okI true V K = true
  · have hK := okI_K ok
    have hv := okI_val ok
    have hq := pw_57 (k := K.toNat) (by omega)
    have hput := put0 hv.1 (by omega) e K
    rw [wput_lay_sg ok] at hput
    obtain ⟨k, rfl⟩ : ∃ k : Nat, K = k := ⟨K.toNat, by omega⟩
    have hf := Fits_ok V k (by omega)
    have hfp : fitP V k = true := by unfold okI at ok; rw [if_neg (by omega), if_neg (by omega), if_pos rfl, Int.toNat_natCast] at ok; exact ok
    rw [hfp] at hf
    have ha := and_val h1 h2 (by omega) hfp
    generalize wlay [] e true V k = q at *
    by_cases c : q.1.length = 0
    · rw [if_pos c] at hput ⊢
      simp -implicitDefEqProofs only [g26, g26_0, asI4_i, asI_i, asB_b, asN_n, asL_l, asE_nil, Bool.cond_decide, Bool.not_true, cond_true, cond_false, if_neg (show ¬ (k : Int) < 0 by omega), if_neg (show ¬ (57 : Int) < k by omega), hf, altK_0, ha, hput]
    · rw [if_neg c] at hput ⊢
      unfold WL at *
      simp -implicitDefEqProofs only [g26, g26_0, asI4_i, asI_i, asB_b, asN_n, asL_l, asE_nil, Bool.cond_decide, Bool.not_true, cond_true, cond_false, if_neg (show ¬ (k : Int) < 0 by omega), if_neg (show ¬ (57 : Int) < k by omega), hf, altK_0, altK_1, ha, hput]
  · have ok' : okI true V K = false := by simpa using ok
    rw [wlay_bad ok']
    refine Eq.trans ?_ (congrArg some (if_pos (show ([] : List Int).length = 0 from rfl)).symm)
    by_cases k1 : K < 0
    · by_cases z : e = 0
      · rw [if_pos z]; simp -implicitDefEqProofs only [g26, g26_0, asI4_i, asI_i, asE_nil, Bool.cond_decide, if_pos k1, if_pos z]
      · rw [if_neg z]; simp -implicitDefEqProofs only [g26, g26_0, asI4_i, asI_i, asE_nil, Bool.cond_decide, if_pos k1, if_neg z]
    · by_cases k2 : 57 < K
      · by_cases z : e = 0
        · rw [if_pos z]; simp -implicitDefEqProofs only [g26, g26_0, asI4_i, asI_i, asE_nil, Bool.cond_decide, if_neg k1, if_pos k2, if_pos z]
        · rw [if_neg z]; simp -implicitDefEqProofs only [g26, g26_0, asI4_i, asI_i, asE_nil, Bool.cond_decide, if_neg k1, if_pos k2, if_neg z]
      · obtain ⟨k, rfl⟩ : ∃ k : Nat, K = k := ⟨K.toNat, by omega⟩
        have hf := Fits_ok V k (by omega)
        have hfp : fitP V k = false := by unfold okI at ok'; rw [if_neg k1, if_neg k2, if_pos rfl, Int.toNat_natCast] at ok'; exact ok'
        rw [hfp] at hf
        by_cases z : e = 0
        · rw [if_pos z]; simp -implicitDefEqProofs only [g26, g26_0, asI4_i, asI_i, asB_b, asE_nil, Bool.cond_decide, Bool.not_false, cond_true, if_neg k1, if_neg k2, hf, altK_0, if_pos z]
        · rw [if_neg z]; simp -implicitDefEqProofs only [g26, g26_0, asI4_i, asI_i, asB_b, asE_nil, Bool.cond_decide, Bool.not_false, cond_true, if_neg k1, if_neg k2, hf, altK_0, if_neg z]
theorem sgn1 {A : List Int} (hA : B01 A) (hl : A.length ≤ 90000) (e V K : Int) (h1 : -9223372036854775808 ≤ V) (h2 : V ≤ 9223372036854775807) : ∃ j, (j = 1 ∨ j = 2) ∧
    g26 (1, .i V :: .i K :: WL A e) = some (j, WL (wlay A e true V K).1 (wlay A e true V K).2) := by
  by_cases ok : okI true V K = true
  · have hK := okI_K ok
    have hv := okI_val ok
    have hq := pw_57 (k := K.toNat) (by omega)
    obtain ⟨j, hj, hput⟩ := put1 hv.1 (by omega) hA hl e K
    rw [wput_lay_sg ok] at hput
    obtain ⟨k, rfl⟩ : ∃ k : Nat, K = k := ⟨K.toNat, by omega⟩
    have hf := Fits_ok V k (by omega)
    have hfp : fitP V k = true := by unfold okI at ok; rw [if_neg (by omega), if_neg (by omega), if_pos rfl, Int.toNat_natCast] at ok; exact ok
    rw [hfp] at hf
    have ha := and_val h1 h2 (by omega) hfp
    generalize wlay A e true V k = q at *
    refine ⟨j, hj, ?_⟩
    unfold WL at *
    rcases hj with rfl | rfl
    all_goals simp -implicitDefEqProofs only [g26, g26_1, asI4_i, asI_i, asB_b, asN_n, asL_l, asE_nil, Bool.cond_decide, Bool.not_true, cond_true, cond_false, if_neg (show ¬ (k : Int) < 0 by omega), if_neg (show ¬ (57 : Int) < k by omega), hf, altK_0, altK_1, altK_2, ha, hput]
  · have ok' : okI true V K = false := by simpa using ok
    rw [wlay_bad ok']
    refine ⟨1, Or.inl rfl, ?_⟩
    unfold WL
    by_cases k1 : K < 0
    · by_cases z : e = 0
      · rw [if_pos z]; simp -implicitDefEqProofs only [g26, g26_1, asI4_i, asI_i, asN_n, asL_l, asE_nil, Bool.cond_decide, if_pos k1, if_pos z]
      · rw [if_neg z]; simp -implicitDefEqProofs only [g26, g26_1, asI4_i, asI_i, asN_n, asL_l, asE_nil, Bool.cond_decide, if_pos k1, if_neg z]
    · by_cases k2 : 57 < K
      · by_cases z : e = 0
        · rw [if_pos z]; simp -implicitDefEqProofs only [g26, g26_1, asI4_i, asI_i, asN_n, asL_l, asE_nil, Bool.cond_decide, if_neg k1, if_pos k2, if_pos z]
        · rw [if_neg z]; simp -implicitDefEqProofs only [g26, g26_1, asI4_i, asI_i, asN_n, asL_l, asE_nil, Bool.cond_decide, if_neg k1, if_pos k2, if_neg z]
      · obtain ⟨k, rfl⟩ : ∃ k : Nat, K = k := ⟨K.toNat, by omega⟩
        have hf := Fits_ok V k (by omega)
        have hfp : fitP V k = false := by unfold okI at ok'; rw [if_neg k1, if_neg k2, if_pos rfl, Int.toNat_natCast] at ok'; exact ok'
        rw [hfp] at hf
        by_cases z : e = 0
        · rw [if_pos z]; simp -implicitDefEqProofs only [g26, g26_1, asI4_i, asI_i, asB_b, asN_n, asL_l, asE_nil, Bool.cond_decide, Bool.not_false, cond_true, if_neg k1, if_neg k2, hf, altK_0, if_pos z]
        · rw [if_neg z]; simp -implicitDefEqProofs only [g26, g26_1, asI4_i, asI_i, asB_b, asN_n, asL_l, asE_nil, Bool.cond_decide, Bool.not_false, cond_true, if_neg k1, if_neg k2, hf, altK_0, if_neg z]
theorem wu_in {V : Int} (h1 : -9223372036854775808 ≤ V) (h2 : V ≤ 9223372036854775807) : 0 ≤ IntKind.u64.wrap V ∧ IntKind.u64.wrap V ≤ 18446744073709551615 := by
  rw [wu_val h1 h2]; split <;> omega
/-! ### Bytes -/
theorem byts0 (size e : Int) (hs : size ≤ 1000) : g27 (0, [.i size, .i 0, .i e]) = some (if e ≠ 0 then (1, [.i e, .i 0, .i e]) else if size < 0 then (1, [.i 1, .i 0, .i e]) else (0, [.n size.toNat, .i 0, .i 0, .i e, .l (List.replicate size.toNat 0)])) := by
  by_cases c : e ≠ 0
  · rw [if_pos c]
    simp -implicitDefEqProofs only [g27, g27_0, asI4_i, asI_i, asE_nil, Bool.cond_decide, if_pos c]
  · rw [if_neg c]
    by_cases d : size < 0
    · rw [if_pos d]
      simp -implicitDefEqProofs only [g27, g27_0, asI4_i, asI_i, asE_nil, Bool.cond_decide, if_neg c, if_pos d]
    · rw [if_neg d]
      simp -implicitDefEqProofs only [g27, g27_0, asI4_i, asI_i, asE_nil, Bool.cond_decide, if_neg c, if_neg d, if_true, if_pos (show (0 : Int) ≤ size by omega), if_pos (show (1 : Int) * size ≤ 140737488355328 by omega), if_pos (show size ≤ 9223372036854775807 by omega)]
theorem byts1 (A : List Int) (size e : Int) (hs : size ≤ 1000) : g27 (1, .i size :: WL A e) = some (if e ≠ 0 then (3, .i e :: WL A e) else if size < 0 then (3, .i 1 :: WL A e) else if size < ((A.length + 7) / 8 : Nat) then (3, .i 3 :: WL A e) else (2, .n size.toNat :: .i 0 :: (WL A e ++ [.l (packL A size.toNat)]))) := by
  unfold WL
  by_cases c : e ≠ 0
  · rw [if_pos c]
    simp -implicitDefEqProofs only [g27, g27_1, asI4_i, asI_i, asN_n, asL_l, asE_nil, Bool.cond_decide, if_pos c]
  · rw [if_neg c]
    by_cases d : size < 0
    · rw [if_pos d]
      simp -implicitDefEqProofs only [g27, g27_1, asI4_i, asI_i, asN_n, asL_l, asE_nil, Bool.cond_decide, if_neg c, if_pos d]
    · rw [if_neg d]
      by_cases q : size < ((A.length + 7) / 8 : Nat)
      · rw [if_pos q]
        simp -implicitDefEqProofs only [g27, g27_1, asI4_i, asI_i, asN_n, asL_l, asE_nil, Bool.cond_decide, if_neg c, if_neg d, if_pos q]
      · rw [if_neg q]
        obtain ⟨z, rfl⟩ : ∃ z : Nat, size = z := ⟨size.toNat, by omega⟩
        rw [Int.toNat_natCast]
        have hm : (A.length + 7) / 8 ≤ z := by omega
        have hmin : min ((A.length + 7) / 8) z = (A.length + 7) / 8 := by omega
        have htk : List.take ((A.length + 7) / 8 * 1) (packL A ((A.length + 7) / 8)) = packL A ((A.length + 7) / 8) := List.take_of_length_le (by rw [pack_len]; omega)
        have hrep : List.drop (0 + (A.length + 7) / 8) (List.replicate z (0 : Int)) = List.replicate (z - (A.length + 7) / 8) 0 := by rw [List.drop_replicate, Nat.zero_add]
        have hpad : packL A ((A.length + 7) / 8) ++ List.replicate (z - (A.length + 7) / 8) 0 = packL A z := by
          rw [pack_pad (by omega), show (A.length + 7) / 8 + (z - (A.length + 7) / 8) = z by omega]
        simp -implicitDefEqProofs only [g27, g27_1, asI4_i, asI_i, asN_n, asL_l, asE_nil, Bool.cond_decide, if_neg c, if_neg d, if_neg q, if_true, if_pos (show (0 : Int) ≤ (z : Int) by omega), if_pos (show (1 : Int) * (z : Int) ≤ 140737488355328 by omega), if_pos (show (z : Int) ≤ 9223372036854775807 by omega), Int.toNat_natCast, hmin, if_pos (Nat.le_refl _), pack_len, if_pos (show 0 + (A.length + 7) / 8 * 1 ≤ (A.length + 7) / 8 by omega), htk, List.length_replicate, if_pos (show 0 + (A.length + 7) / 8 ≤ z by omega), hrep, hpad, List.cons_append, List.nil_append]
end Go.Proofs.Ytdngjlgbebmbhaa
