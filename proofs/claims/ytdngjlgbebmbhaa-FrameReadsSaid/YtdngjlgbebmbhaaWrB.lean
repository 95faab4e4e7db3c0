/-
  Bits laid into bytes, in plain numbers. Conditions: none.
-/
import Derived.Test.YtdngjlgbebmbhaaRdB
namespace Go.Proofs.Ytdngjlgbebmbhaa
open Go Go.Sx
set_option maxRecDepth 100000
set_option linter.unusedVariables false
attribute [local simp] asI_i asB_b asL_l asN_n asS_s asE_nil altK_none altK_0 altK_1 altK_2 altK_3 optK_some optK_none Bool.cond_decide Bool.cond_not Int.toNat_natCast
set_option linter.unusedSimpArgs false
def B01 (A : List Int) : Prop := ∀ x ∈ A, x = 0 ∨ x = 1
theorem b01_get {A : List Int} (h : B01 A) (i : Nat) : A.getD i 0 = 0 ∨ A.getD i 0 = 1 := by
  by_cases c : i < A.length
  · exact h _ (List.mem_of_getElem? (get_some c))
  · left; simp [List.getElem?_eq_none (show A.length ≤ i by omega)]
theorem b01_app {A B : List Int} (h : B01 A) (k : B01 B) : B01 (A ++ B) := fun x hx => (List.mem_append.1 hx).elim (h x) (k x)
theorem getD_none {A : List Int} {i : Nat} (h : A.length ≤ i) : A.getD i 0 = 0 := by simp [List.getElem?_eq_none h]
/-- Byte j of bits. -/
def byteV (A : List Int) (j : Nat) : Int :=
  A.getD (8 * j) 0 * 128 + A.getD (8 * j + 1) 0 * 64 + A.getD (8 * j + 2) 0 * 32 + A.getD (8 * j + 3) 0 * 16 + A.getD (8 * j + 4) 0 * 8 + A.getD (8 * j + 5) 0 * 4 + A.getD (8 * j + 6) 0 * 2 + A.getD (8 * j + 7) 0
theorem byte_in {A : List Int} (h : B01 A) (j : Nat) : 0 ≤ byteV A j ∧ byteV A j ≤ 255 := by
  have h0 := b01_get h (8 * j)
  have h1 := b01_get h (8 * j + 1)
  have h2 := b01_get h (8 * j + 2)
  have h3 := b01_get h (8 * j + 3)
  have h4 := b01_get h (8 * j + 4)
  have h5 := b01_get h (8 * j + 5)
  have h6 := b01_get h (8 * j + 6)
  have h7 := b01_get h (8 * j + 7)
  unfold byteV
  omega
theorem byte_none {A : List Int} {j : Nat} (h : A.length ≤ 8 * j) : byteV A j = 0 := by
  unfold byteV
  rw [getD_none (by omega), getD_none (by omega), getD_none (by omega), getD_none (by omega), getD_none (by omega), getD_none (by omega), getD_none (by omega), getD_none (by omega)]
  rfl
theorem getD_app (A : List Int) (b : Int) (i : Nat) : (A ++ [b]).getD i 0 = if i = A.length then b else A.getD i 0 := by
  by_cases c : i = A.length
  · rw [if_pos c]; subst c; simp
  · rw [if_neg c]
    by_cases q : i < A.length
    · simp [List.getElem?_append_left q]
    · rw [getD_none (A := A) (by omega), getD_none (by simp; omega)]
theorem pw_0 : pw 0 = 1 := rfl
theorem pw_1 : pw 1 = 2 := rfl
theorem pw_2 : pw 2 = 4 := rfl
theorem pw_3 : pw 3 = 8 := rfl
theorem pw_4 : pw 4 = 16 := rfl
theorem pw_5 : pw 5 = 32 := rfl
theorem pw_6 : pw 6 = 64 := rfl
theorem pw_7 : pw 7 = 128 := rfl
theorem pw_8 : pw 8 = 256 := rfl
theorem byte_other {A : List Int} {b : Int} {j : Nat} (h : A.length / 8 ≠ j) : byteV (A ++ [b]) j = byteV A j := by
  unfold byteV
  rw [getD_app, getD_app, getD_app, getD_app, getD_app, getD_app, getD_app, getD_app]
  rw [if_neg (by omega), if_neg (by omega), if_neg (by omega), if_neg (by omega), if_neg (by omega), if_neg (by omega), if_neg (by omega), if_neg (by omega)]
theorem byte_own {A : List Int} {b : Int} {j s : Nat} (h : A.length = 8 * j + s) (hs : s < 8) : byteV (A ++ [b]) j = byteV A j + b * pw (7 - s) := by
  unfold byteV
  rw [getD_app, getD_app, getD_app, getD_app, getD_app, getD_app, getD_app, getD_app, h]
  match s, hs with
  | 0, _ => rw [if_pos (by omega), if_neg (by omega), if_neg (by omega), if_neg (by omega), if_neg (by omega), if_neg (by omega), if_neg (by omega), if_neg (by omega), getD_none (A := A) (i := 8 * j) (by omega)]; show _ = _ + b * pw 7; rw [pw_7]; omega
  | 1, _ => rw [if_neg (by omega), if_pos (by omega), if_neg (by omega), if_neg (by omega), if_neg (by omega), if_neg (by omega), if_neg (by omega), if_neg (by omega), getD_none (A := A) (i := 8 * j + 1) (by omega)]; show _ = _ + b * pw 6; rw [pw_6]; omega
  | 2, _ => rw [if_neg (by omega), if_neg (by omega), if_pos (by omega), if_neg (by omega), if_neg (by omega), if_neg (by omega), if_neg (by omega), if_neg (by omega), getD_none (A := A) (i := 8 * j + 2) (by omega)]; show _ = _ + b * pw 5; rw [pw_5]; omega
  | 3, _ => rw [if_neg (by omega), if_neg (by omega), if_neg (by omega), if_pos (by omega), if_neg (by omega), if_neg (by omega), if_neg (by omega), if_neg (by omega), getD_none (A := A) (i := 8 * j + 3) (by omega)]; show _ = _ + b * pw 4; rw [pw_4]; omega
  | 4, _ => rw [if_neg (by omega), if_neg (by omega), if_neg (by omega), if_neg (by omega), if_pos (by omega), if_neg (by omega), if_neg (by omega), if_neg (by omega), getD_none (A := A) (i := 8 * j + 4) (by omega)]; show _ = _ + b * pw 3; rw [pw_3]; omega
  | 5, _ => rw [if_neg (by omega), if_neg (by omega), if_neg (by omega), if_neg (by omega), if_neg (by omega), if_pos (by omega), if_neg (by omega), if_neg (by omega), getD_none (A := A) (i := 8 * j + 5) (by omega)]; show _ = _ + b * pw 2; rw [pw_2]; omega
  | 6, _ => rw [if_neg (by omega), if_neg (by omega), if_neg (by omega), if_neg (by omega), if_neg (by omega), if_neg (by omega), if_pos (by omega), if_neg (by omega), getD_none (A := A) (i := 8 * j + 6) (by omega)]; show _ = _ + b * pw 1; rw [pw_1]; omega
  | 7, _ => rw [if_neg (by omega), if_neg (by omega), if_neg (by omega), if_neg (by omega), if_neg (by omega), if_neg (by omega), if_neg (by omega), if_pos (by omega), getD_none (A := A) (i := 8 * j + 7) (by omega)]; show _ = _ + b * pw 0; rw [pw_0]; omega
/-- The places behind are noughts. -/
theorem byte_low {A : List Int} (hA : B01 A) {j s : Nat} (h : A.length = 8 * j + s) (hs : s < 8) : byteV A j % pw (8 - s) = 0 := by
  have h0 := b01_get hA (8 * j)
  have h1 := b01_get hA (8 * j + 1)
  have h2 := b01_get hA (8 * j + 2)
  have h3 := b01_get hA (8 * j + 3)
  have h4 := b01_get hA (8 * j + 4)
  have h5 := b01_get hA (8 * j + 5)
  have h6 := b01_get hA (8 * j + 6)
  have g : ∀ t, s ≤ t → A.getD (8 * j + t) 0 = 0 := fun t ht => getD_none (by omega)
  have g0 : s = 0 → A.getD (8 * j) 0 = 0 := fun ht => getD_none (by omega)
  unfold byteV
  match s, hs with
  | 0, _ => show _ % pw 8 = 0; rw [pw_8, g0 rfl, g 1 (by omega), g 2 (by omega), g 3 (by omega), g 4 (by omega), g 5 (by omega), g 6 (by omega), g 7 (by omega)]; rfl
  | 1, _ => show _ % pw 7 = 0; rw [pw_7, g 1 (by omega), g 2 (by omega), g 3 (by omega), g 4 (by omega), g 5 (by omega), g 6 (by omega), g 7 (by omega)]; omega
  | 2, _ => show _ % pw 6 = 0; rw [pw_6, g 2 (by omega), g 3 (by omega), g 4 (by omega), g 5 (by omega), g 6 (by omega), g 7 (by omega)]; omega
  | 3, _ => show _ % pw 5 = 0; rw [pw_5, g 3 (by omega), g 4 (by omega), g 5 (by omega), g 6 (by omega), g 7 (by omega)]; omega
  | 4, _ => show _ % pw 4 = 0; rw [pw_4, g 4 (by omega), g 5 (by omega), g 6 (by omega), g 7 (by omega)]; omega
  | 5, _ => show _ % pw 3 = 0; rw [pw_3, g 5 (by omega), g 6 (by omega), g 7 (by omega)]; omega
  | 6, _ => show _ % pw 2 = 0; rw [pw_2, g 6 (by omega), g 7 (by omega)]; omega
  | 7, _ => show _ % pw 1 = 0; rw [pw_1, g 7 (by omega)]; omega
def orOk (x s b : Nat) : Bool := !decide ((x : Int) % pw (8 - s) = 0) || decide (bOr .u8 (x : Int) (shlI .u8 (b : Int) (7 - (s : Int))) = (x : Int) + (b : Int) * pw (7 - s))
theorem ors_ok : ((List.range 256).all fun x => (List.range 8).all fun s => (List.range 2).all fun b => orOk x s b) = true := by kernel_rfl
theorem or_byte {x b : Int} (h0 : 0 ≤ x) (h1 : x ≤ 255) {s : Nat} (hs : s < 8) (hb : b = 0 ∨ b = 1) (hx : x % pw (8 - s) = 0) : bOr .u8 x (shlI .u8 b (7 - (s : Int))) = x + b * pw (7 - s) := by
  obtain ⟨n, rfl⟩ : ∃ n : Nat, x = n := ⟨x.toNat, by omega⟩
  obtain ⟨m, hm, rfl⟩ : ∃ m : Nat, m < 2 ∧ b = (m : Int) := by
    rcases hb with rfl | rfl
    · exact ⟨0, by omega, rfl⟩
    · exact ⟨1, by omega, rfl⟩
  have h := List.all_eq_true.1 ors_ok n (List.mem_range.2 (by omega))
  have h' := List.all_eq_true.1 h s (List.mem_range.2 hs)
  have h2 := List.all_eq_true.1 h' m (List.mem_range.2 hm)
  unfold orOk at h2
  rw [hx, show decide ((0 : Int) = 0) = true from rfl, Bool.not_true, Bool.false_or] at h2
  exact of_decide_eq_true h2
theorem and1 {y : Int} (h0 : 0 ≤ y) (h1 : y ≤ 18446744073709551615) : bAnd .u64 y 1 = y % 2 := by
  obtain ⟨n, rfl⟩ : ∃ n : Nat, y = n := ⟨y.toNat, by omega⟩
  show IntKind.u64.wrap (((BitVec.ofInt 64 (n : Int) &&& BitVec.ofInt 64 1).toNat : Nat) : Int) = _
  have e : (BitVec.ofInt 64 (n : Int)).toNat = n := by rw [BitVec.toNat_ofInt]; omega
  rw [BitVec.toNat_and, e, show (BitVec.ofInt 64 1).toNat = 1 from rfl, Nat.and_one_is_mod, wrapU (by omega) (by omega)]
  omega
theorem andpw {y : Int} (h0 : 0 ≤ y) (h1 : y ≤ 18446744073709551615) {k : Nat} (hk : k ≤ 57) : bAnd .u64 y (pw k - 1) = y % pw k := by
  obtain ⟨n, rfl⟩ : ∃ n : Nat, y = n := ⟨y.toNat, by omega⟩
  have hp := pw_57 hk
  have hq := pw_pos k
  show IntKind.u64.wrap (((BitVec.ofInt 64 (n : Int) &&& BitVec.ofInt 64 (pw k - 1)).toNat : Nat) : Int) = _
  have e : (BitVec.ofInt 64 (n : Int)).toNat = n := by rw [BitVec.toNat_ofInt]; omega
  have e2 : (BitVec.ofInt 64 (pw k - 1)).toNat = 2 ^ k - 1 := by
    rw [BitVec.toNat_ofInt]
    unfold pw at *
    omega
  rw [BitVec.toNat_and, e, e2, Nat.and_two_pow_sub_one_eq_mod]
  have : n % 2 ^ k ≤ n := Nat.mod_le _ _
  rw [wrapU (by omega) (by omega)]
  unfold pw
  omega
theorem shrU {v : Int} (t : Nat) (ht : t ≤ 64) : shrI .u64 v (t : Int) = v / pw t := by
  unfold shrI
  rw [show min (Int.toNat (t : Int)) IntKind.u64.bits = t by show min t 64 = t; omega, pw_int, Int.fdiv_eq_ediv_of_nonneg _ (by have := pw_pos t; omega)]
/-- Bit t of a number. -/
def bv (v : Int) (t : Nat) : Int := v / pw t % 2
theorem bv_01 (v : Int) (t : Nat) : bv v t = 0 ∨ bv v t = 1 := by unfold bv; omega
theorem bit_val {v : Int} (h0 : 0 ≤ v) (h1 : v ≤ 18446744073709551615) {t : Nat} (ht : t ≤ 64) : IntKind.u8.wrap (bAnd .u64 (shrI .u64 v t) 1) = bv v t := by
  have hp := pw_pos t
  have h2 : 0 ≤ v / pw t := Int.ediv_nonneg h0 (by omega)
  have h3 : v / pw t ≤ v := Int.ediv_le_self _ h0
  rw [shrU t ht, and1 h2 (by omega)]
  have := bv_01 v t
  unfold bv at *
  exact IntWalk.u8_in _ (by omega)
/-- All bytes of bits. -/
def packL (A : List Int) (m : Nat) : List Int := (List.range m).map (byteV A)
theorem pack_len (A : List Int) (m : Nat) : (packL A m).length = m := by simp [packL]
theorem pack_get (A : List Int) {m j : Nat} (h : j < m) : (packL A m)[j]? = some (byteV A j) := by
  unfold packL; rw [List.getElem?_map, List.getElem?_range h]; rfl
theorem pack_set {A : List Int} {b : Int} {m : Nat} (h : A.length / 8 < m) {x : Int} (hx : x = byteV (A ++ [b]) (A.length / 8)) : (packL A m).set (A.length / 8) x = packL (A ++ [b]) m := by
  refine List.ext_getElem? fun i => ?_
  by_cases hi : i < m
  · rw [pack_get _ hi]
    by_cases e : A.length / 8 = i
    · subst e
      rw [List.getElem?_set_self (by rw [pack_len]; exact hi), hx]
    · rw [List.getElem?_set_ne e, pack_get _ hi, byte_other e]
  · rw [List.getElem?_eq_none (by rw [List.length_set, pack_len]; omega), List.getElem?_eq_none (by rw [pack_len]; omega)]
theorem pack_more {A : List Int} {m : Nat} (h : A.length ≤ 8 * m) : packL A m ++ [0] = packL A (m + 1) := by
  unfold packL
  rw [List.range_succ, List.map_append]
  rw [show List.map (byteV A) [m] = [byteV A m] from rfl, byte_none h]
theorem pack_pad {A : List Int} {m : Nat} (h : A.length ≤ 8 * m) : ∀ q, packL A m ++ List.replicate q 0 = packL A (m + q)
  | 0 => by simp
  | q + 1 => by
    rw [List.replicate_succ', ← List.append_assoc, pack_pad h q, pack_more (by omega), Nat.add_assoc]
/-- The highest bits of a number of K bits, so many. -/
def topL (v : Int) (K : Nat) : Nat → List Int
  | 0 => []
  | j + 1 => topL v K j ++ [bv v (K - 1 - j)]
theorem topL_len (v : Int) (K : Nat) : ∀ j, (topL v K j).length = j
  | 0 => rfl
  | j + 1 => by show (topL v K j ++ [_]).length = _; rw [List.length_append, topL_len v K j]; rfl
theorem topL_01 (v : Int) (K : Nat) : ∀ j, B01 (topL v K j)
  | 0 => fun x hx => by cases hx
  | j + 1 => b01_app (topL_01 v K j) (fun x hx => by rw [List.mem_singleton.1 hx]; exact bv_01 _ _)
theorem topL_get (v : Int) (K : Nat) : ∀ j i, i < j → (topL v K j)[i]? = some (bv v (K - 1 - i))
  | 0, i, h => by omega
  | j + 1, i, h => by
    show (topL v K j ++ [_])[i]? = _
    by_cases e : i < j
    · rw [List.getElem?_append_left (by rw [topL_len]; exact e)]; exact topL_get v K j i e
    · obtain rfl : i = j := by omega
      rw [List.getElem?_append_right (by rw [topL_len]; omega), topL_len, Nat.sub_self]; rfl
end Go.Proofs.Ytdngjlgbebmbhaa
