/-
  The law of what follows a number. Conditions: none.
-/
import Derived.Test.YtgmlibigknnbmaaDecA
import Derived.KernelRfl
namespace Go.Proofs.Ytgmlibigknnbmaa
open Go Go.Sx
set_option maxRecDepth 100000
set_option linter.unusedVariables false
attribute [local simp] asI_i asB_b asL_l asN_n asS_s asE_nil altK_none altK_0 altK_1 altK_2 altK_3 optK_some optK_none Bool.cond_decide Bool.cond_not Int.toNat_natCast
set_option linter.unusedSimpArgs false
abbrev V := BitVec 32
def nx (x : V) : V :=
  let a := x ^^^ (x <<< 13)
  let b := a ^^^ (a >>> 17)
  b ^^^ (b <<< 5)
theorem shl_big (x : V) (n : Nat) (h : 32 ≤ n) : x <<< n = 0 := BitVec.shiftLeft_eq_zero h
theorem tele (p q r : V) : (p ^^^ q) ^^^ (q ^^^ r) = p ^^^ r := by rw [BitVec.xor_assoc, ← BitVec.xor_assoc q q r, BitVec.xor_self, BitVec.zero_xor]
theorem shl2 (x : V) (a k : Nat) : (x ^^^ x <<< a) <<< k = x <<< k ^^^ x <<< (a + k) := by rw [BitVec.shiftLeft_xor_distrib, BitVec.shiftLeft_add]
theorem undo13 (x : V) : (x ^^^ x <<< 13) ^^^ (x ^^^ x <<< 13) <<< 13 ^^^ (x ^^^ x <<< 13) <<< 26 = x := by
  rw [shl2 x 13 13, shl2 x 13 26]
  show (x ^^^ x <<< 13) ^^^ (x <<< 13 ^^^ x <<< 26) ^^^ (x <<< 26 ^^^ x <<< 39) = x
  rw [tele, tele, shl_big x 39 (by omega)]
  exact BitVec.xor_zero
theorem undo17 (x : V) : (x ^^^ x >>> 17) ^^^ (x ^^^ x >>> 17) >>> 17 = x := by
  rw [BitVec.ushiftRight_xor_distrib, ← BitVec.shiftRight_add]
  have h : x >>> (17 + 17) = 0 := BitVec.ushiftRight_eq_zero (by omega)
  rw [tele, h]
  exact BitVec.xor_zero
theorem undo5 (x : V) : (x ^^^ x <<< 5) ^^^ (x ^^^ x <<< 5) <<< 5 ^^^ (x ^^^ x <<< 5) <<< 10 ^^^ (x ^^^ x <<< 5) <<< 15 ^^^ (x ^^^ x <<< 5) <<< 20 ^^^ (x ^^^ x <<< 5) <<< 25 ^^^ (x ^^^ x <<< 5) <<< 30 = x := by
  rw [shl2 x 5 5, shl2 x 5 10, shl2 x 5 15, shl2 x 5 20, shl2 x 5 25, shl2 x 5 30]
  show (x ^^^ x <<< 5) ^^^ (x <<< 5 ^^^ x <<< 10) ^^^ (x <<< 10 ^^^ x <<< 15) ^^^ (x <<< 15 ^^^ x <<< 20) ^^^ (x <<< 20 ^^^ x <<< 25) ^^^ (x <<< 25 ^^^ x <<< 30) ^^^ (x <<< 30 ^^^ x <<< 35) = x
  rw [tele, tele, tele, tele, tele, tele, shl_big x 35 (by omega)]
  exact BitVec.xor_zero
theorem nx_inj {x y : V} (h : nx x = nx y) : x = y := by
  unfold nx at h
  simp only at h
  have h5 := congrArg (fun z : V => z ^^^ z <<< 5 ^^^ z <<< 10 ^^^ z <<< 15 ^^^ z <<< 20 ^^^ z <<< 25 ^^^ z <<< 30) h
  simp only [undo5] at h5
  have h17 := congrArg (fun z : V => z ^^^ z >>> 17) h5
  simp only [undo17] at h17
  have h13 := congrArg (fun z : V => z ^^^ z <<< 13 ^^^ z <<< 26) h17
  simp only [undo13] at h13
  exact h13
/-- A number of 32 bits, as bits and back. -/
theorem u32_wf {x : Int} (w : (Lit.int .u32 x).wf = true) : 0 ≤ x ∧ x < 4294967296 := by
  have := (Lit.wf_int_iff .u32 x).1 w
  simp [IntKind.min, IntKind.max, IntKind.bits, IntKind.signed] at this
  omega
theorem wrapu (n : Nat) : IntKind.u32.wrap (n : Int) = ((n % 4294967296 : Nat) : Int) := by
  unfold IntKind.wrap
  simp [IntKind.bits, IntKind.signed]
theorem ofInt_nat (n : Nat) : BitVec.ofInt 32 (n : Int) = BitVec.ofNat 32 n := BitVec.ofInt_natCast _ _
theorem xor_u (a b : Nat) (ha : a < 4294967296) (hb : b < 4294967296) : bXor .u32 (a : Int) (b : Int) = ((BitVec.ofNat 32 a ^^^ BitVec.ofNat 32 b).toNat : Nat) := by
  show IntKind.u32.wrap ((BitVec.ofInt 32 (a : Int) ^^^ BitVec.ofInt 32 (b : Int)).toNat : Nat) = _
  rw [ofInt_nat, ofInt_nat, wrapu, Nat.mod_eq_of_lt (BitVec.isLt _)]
theorem shl_u (a k : Nat) (hk : k < 32) : IntKind.u32.wrap ((a : Int) * ((2 ^ k : Nat) : Int)) = ((BitVec.ofNat 32 a <<< k).toNat : Nat) := by
  rw [← Int.natCast_mul, wrapu, BitVec.toNat_shiftLeft, BitVec.toNat_ofNat, Nat.shiftLeft_eq]
  congr 1
  rw [Nat.mod_mul_mod]
theorem ofNat_toNat (x : V) : BitVec.ofNat 32 x.toNat = x := by simp
theorem rand_ok (x : V) : g12 (0, [.i x.toNat]) = some (0, [.i (nx x).toNat]) := by
  have e1 : shlI .u32 (x.toNat : Int) 13 = ((x <<< 13).toNat : Nat) := by
    have := shl_u x.toNat 13 (by omega)
    rw [ofNat_toNat] at this
    exact this
  have e2 : bXor .u32 (x.toNat : Int) ((x <<< 13).toNat : Nat) = ((x ^^^ x <<< 13).toNat : Nat) := by rw [xor_u _ _ x.isLt (BitVec.isLt _), ofNat_toNat, ofNat_toNat]
  generalize ha : x ^^^ x <<< 13 = a at e2
  have e3 : shrI .u32 (a.toNat : Int) 17 = ((a >>> 17).toNat : Nat) := by
    unfold shrI
    rw [Int.fdiv_eq_ediv_of_nonneg _ (by decide), BitVec.toNat_ushiftRight, Nat.shiftRight_eq_div_pow]
    rfl
  have e4 : bXor .u32 (a.toNat : Int) ((a >>> 17).toNat : Nat) = ((a ^^^ a >>> 17).toNat : Nat) := by rw [xor_u _ _ a.isLt (BitVec.isLt _), ofNat_toNat, ofNat_toNat]
  generalize hb : a ^^^ a >>> 17 = b at e4
  have e5 : shlI .u32 (b.toNat : Int) 5 = ((b <<< 5).toNat : Nat) := by
    have := shl_u b.toNat 5 (by omega)
    rw [ofNat_toNat] at this
    exact this
  have e6 : bXor .u32 (b.toNat : Int) ((b <<< 5).toNat : Nat) = ((b ^^^ b <<< 5).toNat : Nat) := by rw [xor_u _ _ b.isLt (BitVec.isLt _), ofNat_toNat, ofNat_toNat]
  have e7 : nx x = b ^^^ b <<< 5 := by unfold nx; simp only [ha, hb]
  simp only [g12, g12_0, asI_i, asE_nil, e1, e2, e3, e4, e5, e6, e7]
theorem randL_ok (x : V) : g13 (0, [.i x.toNat]) = some (0, [.i (nx x).toNat]) := by
  have e1 : IntKind.u32.wrap ((x.toNat : Int) * 8192) = ((x <<< 13).toNat : Nat) := by
    have := shl_u x.toNat 13 (by omega)
    rw [ofNat_toNat] at this
    exact this
  have e2 : bXor .u32 (x.toNat : Int) ((x <<< 13).toNat : Nat) = ((x ^^^ x <<< 13).toNat : Nat) := by rw [xor_u _ _ x.isLt (BitVec.isLt _), ofNat_toNat, ofNat_toNat]
  generalize ha : x ^^^ x <<< 13 = a at e2
  have e3 : IntKind.u32.wrap (Int.tdiv (a.toNat : Int) 131072) = ((a >>> 17).toNat : Nat) := by
    rw [show Int.tdiv (a.toNat : Int) 131072 = ((a.toNat / 131072 : Nat) : Int) from rfl, wrapu, BitVec.toNat_ushiftRight, Nat.shiftRight_eq_div_pow, Nat.mod_eq_of_lt (by have := a.isLt; omega)]
  have e4 : bXor .u32 (a.toNat : Int) ((a >>> 17).toNat : Nat) = ((a ^^^ a >>> 17).toNat : Nat) := by rw [xor_u _ _ a.isLt (BitVec.isLt _), ofNat_toNat, ofNat_toNat]
  generalize hb : a ^^^ a >>> 17 = b at e4
  have e5 : IntKind.u32.wrap ((b.toNat : Int) * 32) = ((b <<< 5).toNat : Nat) := by
    have := shl_u b.toNat 5 (by omega)
    rw [ofNat_toNat] at this
    exact this
  have e6 : bXor .u32 (b.toNat : Int) ((b <<< 5).toNat : Nat) = ((b ^^^ b <<< 5).toNat : Nat) := by rw [xor_u _ _ b.isLt (BitVec.isLt _), ofNat_toNat, ofNat_toNat]
  have e7 : nx x = b ^^^ b <<< 5 := by unfold nx; simp only [ha, hb]
  simp only [g13, g13_0, asI_i, asE_nil, e1, e2, e3, e4, e5, e6, e7]
theorem rands (x y : V) : g4 (0, [.i x.toNat, .i y.toNat]) = some (0, [.b true]) := by
  have h : decide (((nx x).toNat : Int) = (nx y).toNat) = decide ((x.toNat : Int) = y.toNat) := by
    rw [Bool.eq_iff_iff, decide_eq_true_eq, decide_eq_true_eq]
    constructor
    · intro h
      have : nx x = nx y := BitVec.eq_of_toNat_eq (by omega)
      rw [nx_inj this]
    · intro h
      rw [BitVec.eq_of_toNat_eq (show x.toNat = y.toNat by omega)]
  simp only [g4, g4_0, asI_i, asB_b, asE_nil, rand_ok, randL_ok, altK_0, Bool.cond_decide, if_true, h, awakeL_ok]
theorem rands_ev (a b : Int) (wa : (Lit.int .u32 a).wf = true) (wb : (Lit.int .u32 b).wf = true) : evF tab 21 4 [.int .u32 a, .int .u32 b] [] = some (.bool true, [], []) := by
  have ha := u32_wf wa
  have hb := u32_wf wb
  have ea : ((BitVec.ofNat 32 a.toNat).toNat : Int) = a := by rw [BitVec.toNat_ofNat, Nat.mod_eq_of_lt (by omega)]; omega
  have eb : ((BitVec.ofNat 32 b.toNat).toNat : Int) = b := by rw [BitVec.toNat_ofNat, Nat.mod_eq_of_lt (by omega)]; omega
  have h := rands (BitVec.ofNat 32 a.toNat) (BitVec.ofNat 32 b.toNat)
  rw [ea, eb] at h
  exact (ok4 0).ret (i := 0) (ls := [.i a, .i b]) (j := 0) (r := [.b true]) h rfl rfl rfl rfl
end Go.Proofs.Ytgmlibigknnbmaa
