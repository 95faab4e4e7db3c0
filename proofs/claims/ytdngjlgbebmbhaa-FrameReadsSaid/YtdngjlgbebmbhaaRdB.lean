/-
  Bits of bytes, powers of two, and what a reader of bits answers, in plain numbers. Conditions: none.
-/
import Derived.Test.YtdngjlgbebmbhaaSxW
import Derived.KernelRfl
namespace Go.Proofs.Ytdngjlgbebmbhaa
open Go Go.Sx
set_option maxRecDepth 100000
set_option linter.unusedVariables false
attribute [local simp] asI_i asB_b asL_l asN_n asS_s asE_nil altK_none altK_0 altK_1 altK_2 altK_3 optK_some optK_none Bool.cond_decide Bool.cond_not Int.toNat_natCast
set_option linter.unusedSimpArgs false
/-- A power of two. -/
def pw (k : Nat) : Int := ((2 ^ k : Nat) : Int)
theorem pw_succ (k : Nat) : pw (k + 1) = 2 * pw k := by
  unfold pw; rw [Nat.pow_succ]; omega
theorem pw_pos (k : Nat) : 1 ≤ pw k := by
  have : 0 < 2 ^ k := Nat.pow_pos (by omega)
  unfold pw; omega
theorem pw_le {j k : Nat} (h : j ≤ k) : pw j ≤ pw k := by
  have : 2 ^ j ≤ 2 ^ k := Nat.pow_le_pow_right (by omega) h
  unfold pw; omega
theorem pw_62 {k : Nat} (h : k ≤ 62) : pw k ≤ 4611686018427387904 := by
  have := pw_le h
  have e : pw 62 = 4611686018427387904 := rfl
  omega
theorem pw_57 {k : Nat} (h : k ≤ 57) : pw k ≤ 144115188075855872 := by
  have := pw_le h
  have e : pw 57 = 144115188075855872 := rfl
  omega
theorem pw_int (k : Nat) : (2 : Int) ^ k = pw k := by unfold pw; simp
theorem wrapU {x : Int} (h1 : 0 ≤ x) (h2 : x ≤ 18446744073709551615) : IntKind.u64.wrap x = x := IntWalk.u64_in _ ⟨h1, h2⟩
/-- Bit i of bytes. -/
def bt (B : List Int) (i : Nat) : Int := B.getD (i / 8) 0 / pw (7 - i % 8) % 2
theorem bt_01 (B : List Int) (i : Nat) : bt B i = 0 ∨ bt B i = 1 := by unfold bt; omega
/-- The number of the next so many bits. -/
def vK (B : List Int) (a : Nat) : Nat → Int
  | 0 => 0
  | j + 1 => 2 * vK B a j + bt B (a + j)
theorem vK_in (B : List Int) (a : Nat) : ∀ j, 0 ≤ vK B a j ∧ vK B a j < pw j
  | 0 => by show (0 : Int) ≤ 0 ∧ (0 : Int) < pw 0; exact ⟨Int.le_refl _, by have := pw_pos 0; omega⟩
  | j + 1 => by
    have h := vK_in B a j
    have hb := bt_01 B (a + j)
    have e := pw_succ j
    show 0 ≤ 2 * vK B a j + bt B (a + j) ∧ 2 * vK B a j + bt B (a + j) < pw (j + 1)
    omega
def bitOk (x s : Nat) : Bool := decide (IntKind.u64.wrap (bAnd .u8 (shrI .u8 (x : Int) (s : Int)) 1) = (x : Int) / pw s % 2)
theorem bits_ok : ((List.range 256).all fun x => (List.range 8).all fun s => bitOk x s) = true := by kernel_rfl
theorem get_bit {x : Int} (h0 : 0 ≤ x) (h1 : x ≤ 255) {s : Nat} (hs : s < 8) : IntKind.u64.wrap (bAnd .u8 (shrI .u8 x (s : Int)) 1) = x / pw s % 2 := by
  obtain ⟨n, rfl⟩ : ∃ n : Nat, x = n := ⟨x.toNat, by omega⟩
  have h := List.all_eq_true.1 bits_ok n (List.mem_range.2 (by omega))
  have h' := List.all_eq_true.1 h s (List.mem_range.2 hs)
  exact of_decide_eq_true h'
theorem or_bit {v b : Int} (h0 : 0 ≤ v) (h1 : v ≤ 4611686018427387904) (hb : b = 0 ∨ b = 1) : bOr .u64 (shlI .u64 v 1) b = 2 * v + b := by
  obtain ⟨n, rfl⟩ : ∃ n : Nat, v = n := ⟨v.toNat, by omega⟩
  have e1 : shlI .u64 (n : Int) 1 = ((2 * n : Nat) : Int) := by
    show IntKind.u64.wrap ((n : Int) * 2) = _
    rw [wrapU (by omega) (by omega)]; omega
  rw [e1]
  have e2 : ∀ m : Nat, m < 18446744073709551616 → (BitVec.ofInt 64 (m : Int)).toNat = m := fun m hm => by
    rw [BitVec.toNat_ofInt]; omega
  have key : ∀ m : Nat, m < 2 → (2 * n) ||| m = 2 * n + m := fun m hm => by
    have := Nat.shiftLeft_add_eq_or_of_lt (i := 1) (b := m) (by omega) n
    rw [Nat.shiftLeft_eq] at this
    rw [Nat.mul_comm 2 n]
    exact this.symm
  obtain ⟨m, hm, rfl⟩ : ∃ m : Nat, m < 2 ∧ b = (m : Int) := by
    rcases hb with rfl | rfl
    · exact ⟨0, by omega, rfl⟩
    · exact ⟨1, by omega, rfl⟩
  show IntKind.u64.wrap (((BitVec.ofInt 64 ((2 * n : Nat) : Int) ||| BitVec.ofInt 64 (m : Int)).toNat : Nat) : Int) = _
  rw [BitVec.toNat_or, e2 _ (by omega), e2 _ (by omega), key m hm, wrapU (by omega) (by omega)]
  omega
theorem shr_pw {v : Int} {k : Nat} (hk : k ≤ 57) : shrI .u64 v (k : Int) = v / pw k := by
  unfold shrI
  rw [show min (Int.toNat (k : Int)) IntKind.u64.bits = k by show min k 64 = k; omega, pw_int, Int.fdiv_eq_ediv_of_nonneg _ (by have := pw_pos k; omega)]
theorem shl_pw {k : Nat} (hk : k ≤ 57) : shlI .i64 1 (k : Int) = pw k := by
  unfold shlI
  rw [show min (Int.toNat (k : Int)) IntKind.i64.bits = k by show min k 64 = k; omega, pw_int, Int.one_mul]
  have := pw_57 hk
  have := pw_pos k
  exact wrap64 (by omega) (by omega)
/-- A two's complement of so many bits. -/
def sV (v : Int) (k : Nat) : Int := if k = 0 then 0 else if pw (k - 1) ≤ v then v - pw k else v
theorem top_bit {v : Int} {k : Nat} (h0 : 0 ≤ v) (h1 : v < pw k) (hk : 0 < k) : v / pw (k - 1) = 1 ↔ pw (k - 1) ≤ v := by
  have hp := pw_pos (k - 1)
  have e := pw_succ (k - 1)
  rw [show k - 1 + 1 = k by omega] at e
  generalize pw (k - 1) = p at *
  constructor
  · intro h
    have h2 : v / p * p ≤ v := Int.ediv_mul_le v (by omega)
    rw [h] at h2
    omega
  · intro h
    have := (Int.le_ediv_iff_mul_le (a := 1) (b := v) (c := p) (by omega)).2 (by omega)
    have h3 := (Int.ediv_lt_iff_lt_mul (a := v) (b := 2) (c := p) (by omega)).2 (by omega)
    omega
/-- The error behind a call of Get, where so many bits are left. -/
def eK (e k rem : Int) : Int := if e ≠ 0 then e else if k < 0 then 1 else if 57 < k then 1 else if rem < k then 2 else 0
theorem eK_ne {e k rem : Int} (h : e ≠ 0) : eK e k rem = e := if_pos h
theorem eK_neg {k rem : Int} (h : k < 0) : eK 0 k rem = 1 := by unfold eK; rw [if_neg (by omega), if_pos h]
theorem eK_big {k rem : Int} (h : 57 < k) : eK 0 k rem = 1 := by unfold eK; rw [if_neg (by omega), if_neg (by omega), if_pos h]
theorem eK_short {k rem : Int} (h0 : ¬ k < 0) (h1 : ¬ 57 < k) (h : rem < k) : eK 0 k rem = 2 := by unfold eK; rw [if_neg (by omega), if_neg h0, if_neg h1, if_pos h]
theorem eK_ok {k rem : Int} (h0 : ¬ k < 0) (h1 : ¬ 57 < k) (h : ¬ rem < k) : eK 0 k rem = 0 := by unfold eK; rw [if_neg (by omega), if_neg h0, if_neg h1, if_neg h]
/-- Is one of the next so many bits set? -/
def anyK (B : List Int) (a : Nat) : Nat → Bool
  | 0 => false
  | j + 1 => anyK B a j || decide (bt B (a + j) = 1)
theorem anyK_false (B : List Int) (a : Nat) : ∀ n, anyK B a n = false → ∀ j, j < n → bt B (a + j) = 0
  | 0, _, j, hj => by omega
  | n + 1, h, j, hj => by
    simp only [anyK, Bool.or_eq_false_iff, decide_eq_false_iff_not] at h
    by_cases e : j = n
    · subst e; exact (bt_01 B (a + j)).resolve_right h.2
    · exact anyK_false B a n h.1 j (by omega)
theorem anyK_true (B : List Int) (a : Nat) : ∀ n, anyK B a n = true → ∃ k, k < n ∧ bt B (a + k) = 1 ∧ ∀ j, j < k → bt B (a + j) = 0
  | 0, h => by cases h
  | n + 1, h => by
    by_cases q : anyK B a n = true
    · obtain ⟨k, hk, h1, h2⟩ := anyK_true B a n q
      exact ⟨k, by omega, h1, h2⟩
    · rw [Bool.not_eq_true] at q
      simp only [anyK, q, Bool.false_or, decide_eq_true_eq] at h
      exact ⟨n, by omega, h, anyK_false B a n q⟩
theorem anyK_mono (B : List Int) (a : Nat) : ∀ n j, j < n → bt B (a + j) = 1 → anyK B a n = true
  | 0, j, hj, _ => by omega
  | n + 1, j, hj, h => by
    by_cases e : j = n
    · subst e; simp [anyK, h]
    · have := anyK_mono B a n j (by omega) h
      simp [anyK, this]
/-- All bits of so many. -/
def btL (B : List Int) (n : Nat) : List Int := (List.range n).map (bt B)
theorem btL_succ (B : List Int) (n : Nat) : btL B (n + 1) = btL B n ++ [bt B n] := by
  unfold btL; rw [List.range_succ, List.map_append]; rfl
theorem btL_len (B : List Int) (n : Nat) : (btL B n).length = n := by simp [btL]
theorem btL_get (B : List Int) {n i : Nat} (h : i < n) : (btL B n)[i]? = some (bt B i) := by
  unfold btL; rw [List.getElem?_map, List.getElem?_range h]; rfl
theorem law_bit {x : Int} (h0 : 0 ≤ x) (h1 : x ≤ 255) (s : Nat) (hs : s < 8) : (bif decide (Int.tmod (IntKind.i64.wrap (Int.tdiv (IntKind.i64.wrap x) (pw s))) 2 = 1) then (1 : Int) else 0) = x / pw s % 2 := by
  rw [wrap64 (x := x) (by omega) (by omega), Int.tdiv_eq_ediv_of_nonneg h0]
  have hp := pw_pos s
  have h2 : 0 ≤ x / pw s := Int.ediv_nonneg h0 (by omega)
  have h3 : x / pw s ≤ x := Int.ediv_le_self _ h0
  rw [wrap64 (by omega) (by omega), Int.tmod_eq_emod_of_nonneg h2]
  by_cases c : x / pw s % 2 = 1
  · rw [c]; rfl
  · have : x / pw s % 2 = 0 := by omega
    rw [this]; rfl
theorem cT_len {h : List Int} {k : Nat} (hk : k * 2 + 2 ≤ h.length) : List.length (List.take 2 (List.drop (k * 2) h)) = 2 := by rw [List.length_take, List.length_drop]; omega
theorem cT_0 {h : List Int} {k : Nat} (hk : k * 2 + 2 ≤ h.length) : (List.take 2 (List.drop (k * 2) h))[(0 : Nat)]? = some (h.getD (k * 2) 0) := by
  rw [List.getElem?_take_of_lt (by omega), List.getElem?_drop]
  exact get_some (by omega)
theorem cT_1 {h : List Int} {k : Nat} (hk : k * 2 + 2 ≤ h.length) : (List.take 2 (List.drop (k * 2) h))[(1 : Nat)]? = some (h.getD (k * 2 + 1) 0) := by
  rw [List.getElem?_take_of_lt (by omega), List.getElem?_drop]
  exact get_some (by omega)
theorem drop2 : List.drop (0 + 2) ([0, 0] : List Int) = [] := rfl
theorem wf8 {a : Int} (h : (Lit.int .u8 a).wf = true) : 0 ≤ a ∧ a ≤ 255 := by
  have := (Lit.wf_int_iff .u8 a).1 h
  simpa [IntKind.min, IntKind.max, IntKind.bits, IntKind.signed] using this
end Go.Proofs.Ytdngjlgbebmbhaa
