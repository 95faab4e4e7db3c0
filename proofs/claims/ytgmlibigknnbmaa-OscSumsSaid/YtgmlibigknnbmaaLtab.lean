/-
  Lists of integers as tables of functions. Conditions: none.
-/
import Derived.Test.YtgmlibigknnbmaaSxW
namespace Go.Proofs.Ytgmlibigknnbmaa
open Go Go.Sx
set_option linter.unusedVariables false

def tbl (n : Nat) (f : Nat → Int) : List Int := (List.range n).map f
theorem tbl_len (n : Nat) (f : Nat → Int) : (tbl n f).length = n := by simp [tbl]
theorem tbl_get {n k : Nat} {f : Nat → Int} (h : k < n) : (tbl n f)[k]? = some (f k) := by simp [tbl, h]
theorem tbl_getD {n k : Nat} {f : Nat → Int} (h : k < n) : (tbl n f).getD k 0 = f k := by simp [tbl, h]
theorem tbl_ext {l m : List Int} (h : l.length = m.length) (hj : ∀ j, j < l.length → l.getD j 0 = m.getD j 0) : l = m := by
  refine List.ext_getElem h fun j h1 h2 => ?_
  have := hj j h1
  simpa [List.getD_eq_getElem?_getD, List.getElem?_eq_getElem h1, List.getElem?_eq_getElem h2] using this
theorem tbl_of (l : List Int) (n : Nat) (h : l.length = n) : l = tbl n (fun j => l.getD j 0) :=
  tbl_ext (by rw [tbl_len, h]) fun j hj => by rw [tbl_getD (by omega)]
theorem tbl_congr {n m : Nat} {f g : Nat → Int} (hn : n = m) (h : ∀ j, j < n → f j = g j) : tbl n f = tbl m g := by
  subst hn
  exact tbl_ext (by rw [tbl_len, tbl_len]) fun j hj => by rw [tbl_len] at hj; rw [tbl_getD hj, tbl_getD hj, h j hj]
theorem tbl_take (a n : Nat) (f : Nat → Int) : List.take a (tbl n f) = tbl (min a n) f := by
  unfold tbl
  rw [← List.map_take, List.take_range]
theorem tbl_drop (a n : Nat) (f : Nat → Int) : List.drop a (tbl n f) = tbl (n - a) (fun j => f (a + j)) := by
  refine List.ext_getElem (by rw [List.length_drop, tbl_len, tbl_len]) fun j h1 h2 => ?_
  simp [tbl]
theorem tbl_append (n m : Nat) (f g : Nat → Int) : tbl n f ++ tbl m g = tbl (n + m) (fun j => if j < n then f j else g (j - n)) := by
  refine List.ext_getElem (by rw [List.length_append, tbl_len, tbl_len, tbl_len]) fun j h1 h2 => ?_
  rw [List.getElem_append]
  simp only [tbl_len]
  split
  · rename_i h
    simp [tbl, h]
  · rename_i h
    simp [tbl, h]
theorem tbl_set (n k : Nat) (f : Nat → Int) (x : Int) : (tbl n f).set k x = tbl n (fun j => if j = k then x else f j) := by
  refine List.ext_getElem (by rw [List.length_set, tbl_len, tbl_len]) fun j h1 h2 => ?_
  rw [List.getElem_set]
  by_cases h : k = j
  · rw [if_pos h]
    simp [tbl, h]
  · rw [if_neg h]
    have h3 : ¬ j = k := fun e => h e.symm
    simp [tbl, h3]
theorem tbl_rep (n : Nat) : List.replicate n (0 : Int) = tbl n (fun _ => 0) := by
  refine List.ext_getElem (by rw [List.length_replicate, tbl_len]) fun j h1 h2 => ?_
  simp [tbl]
/-- Block k, read and put back. -/
theorem blk_get {N k : Nat} (f : Nat → Int) (h : (k + 1) * 16 ≤ N) : List.take 16 (List.drop (k * 16) (tbl N f)) = tbl 16 (fun c => f (16 * k + c)) := by
  rw [tbl_drop, tbl_take]
  exact tbl_congr (by omega) fun j hj => by rw [Nat.mul_comm]
theorem blk_put {N k : Nat} {f : Nat → Int} {x : List Int} (hx : x.length = 16) (h : (k + 1) * 16 ≤ N) : List.take (k * 16) (tbl N f) ++ (x ++ List.drop (k * 16 + x.length) (tbl N f)) = tbl N (fun j => if j / 16 = k then x.getD (j % 16) 0 else f j) := by
  conv => lhs; rw [tbl_of x 16 hx]
  rw [tbl_len, tbl_take, tbl_drop, tbl_append, tbl_append]
  refine tbl_congr (by omega) fun j hj => ?_
  by_cases h1 : j < k * 16
  · rw [if_pos (by omega), if_neg (by omega)]
  · rw [if_neg (by omega)]
    by_cases h2 : j / 16 = k
    · rw [if_pos (by omega), if_pos h2, show j - min (k * 16) N = j % 16 by omega]
    · rw [if_neg (by omega), if_neg h2]
      congr 1
      omega
/-- Every block turned by a function of its place. -/
def blkF (G : Nat → List Int → List Int) (f : Nat → Int) (j : Nat) : Int := (G (j / 16) (tbl 16 (fun c => f (16 * (j / 16) + c)))).getD (j % 16) 0
def blkTo (G : Nat → List Int → List Int) (f : Nat → Int) (k j : Nat) : Int := if j / 16 < k then blkF G f j else f j
theorem blkTo_read {N k : Nat} (G : Nat → List Int → List Int) (f : Nat → Int) (h : (k + 1) * 16 ≤ N) : List.take 16 (List.drop (k * 16) (tbl N (blkTo G f k))) = tbl 16 (fun c => f (16 * k + c)) := by
  rw [blk_get _ h]
  refine tbl_congr rfl fun j hj => ?_
  unfold blkTo
  rw [if_neg (by omega)]
theorem blkTo_put {N k : Nat} {G : Nat → List Int → List Int} {f : Nat → Int} (hG : (G k (tbl 16 (fun c => f (16 * k + c)))).length = 16) (h : (k + 1) * 16 ≤ N) :
    List.take (k * 16) (tbl N (blkTo G f k)) ++ (G k (tbl 16 (fun c => f (16 * k + c))) ++ List.drop (k * 16 + (G k (tbl 16 (fun c => f (16 * k + c)))).length) (tbl N (blkTo G f k))) = tbl N (blkTo G f (k + 1)) := by
  rw [blk_put hG h]
  refine tbl_congr rfl fun j hj => ?_
  unfold blkTo
  by_cases h1 : j / 16 = k
  · rw [if_pos h1, if_pos (by omega)]
    unfold blkF
    rw [h1]
  · rw [if_neg h1]
    by_cases h2 : j / 16 < k
    · rw [if_pos h2, if_pos (by omega)]
    · rw [if_neg h2, if_neg (by omega)]
theorem blkTo_skip {N k : Nat} {G : Nat → List Int → List Int} {f : Nat → Int} (hG : G k (tbl 16 (fun c => f (16 * k + c))) = tbl 16 (fun c => f (16 * k + c))) : tbl N (blkTo G f k) = tbl N (blkTo G f (k + 1)) := by
  refine tbl_congr rfl fun j hj => ?_
  unfold blkTo
  by_cases h1 : j / 16 = k
  · rw [if_neg (by omega), if_pos (by omega)]
    unfold blkF
    rw [h1, hG, tbl_getD (by omega)]
    congr 1
    omega
  · by_cases h2 : j / 16 < k
    · rw [if_pos h2, if_pos (by omega)]
    · rw [if_neg h2, if_neg (by omega)]
theorem blkTo_zero (N : Nat) (G : Nat → List Int → List Int) (f : Nat → Int) : tbl N (blkTo G f 0) = tbl N f := tbl_congr rfl fun j hj => by unfold blkTo; rw [if_neg (by omega)]
theorem blkTo_all {n : Nat} (G : Nat → List Int → List Int) (f : Nat → Int) : tbl (16 * n) (blkTo G f n) = tbl (16 * n) (blkF G f) := tbl_congr rfl fun j hj => by unfold blkTo; rw [if_pos (by omega)]
/-- So too where the blocks are made anew, out of another list's. -/
def newTo (G : Nat → List Int → List Int) (f : Nat → Int) (k j : Nat) : Int := if j / 16 < k then blkF G f j else 0
theorem newTo_put {N k : Nat} {G : Nat → List Int → List Int} {f : Nat → Int} (hG : (G k (tbl 16 (fun c => f (16 * k + c)))).length = 16) (h : (k + 1) * 16 ≤ N) :
    List.take (k * 16) (tbl N (newTo G f k)) ++ (G k (tbl 16 (fun c => f (16 * k + c))) ++ List.drop (k * 16 + (G k (tbl 16 (fun c => f (16 * k + c)))).length) (tbl N (newTo G f k))) = tbl N (newTo G f (k + 1)) := by
  rw [blk_put hG h]
  refine tbl_congr rfl fun j hj => ?_
  unfold newTo
  by_cases h1 : j / 16 = k
  · rw [if_pos h1, if_pos (by omega)]
    unfold blkF
    rw [h1]
  · rw [if_neg h1]
    by_cases h2 : j / 16 < k
    · rw [if_pos h2, if_pos (by omega)]
    · rw [if_neg h2, if_neg (by omega)]
theorem newTo_all {n : Nat} (G : Nat → List Int → List Int) (f : Nat → Int) : tbl (16 * n) (newTo G f n) = tbl (16 * n) (blkF G f) := tbl_congr rfl fun j hj => by unfold newTo; rw [if_pos (by omega)]

/-! ### Blocks turned into one another where they meet -/
def stepOf (j : Nat) : Nat := if j % 16 < 8 then j / 16 else j / 16 + 1
def kOf (j : Nat) : Nat := if j % 16 < 8 then j % 16 else 15 - j % 16
/-- What place j comes to: h tells of a pair's number and its two values what they come to. -/
def meetVal (h : Nat → Int → Int → Int × Int) (f : Nat → Int) (j : Nat) : Int :=
  if j % 16 < 8 then (h (kOf j) (f (16 * (stepOf j - 1) + (15 - kOf j))) (f (16 * stepOf j + kOf j))).2 else (h (kOf j) (f (16 * (stepOf j - 1) + (15 - kOf j))) (f (16 * stepOf j + kOf j))).1
def meetTo (h : Nat → Int → Int → Int × Int) (f : Nat → Int) (i k j : Nat) : Int := if 1 ≤ stepOf j ∧ (stepOf j < i ∨ stepOf j = i ∧ kOf j < k) then meetVal h f j else f j
theorem at_p {i k : Nat} (hi : 1 ≤ i) (hk : k < 8) : stepOf (16 * (i - 1) + (15 - k)) = i ∧ kOf (16 * (i - 1) + (15 - k)) = k ∧ ¬ (16 * (i - 1) + (15 - k)) % 16 < 8 := by
  unfold stepOf kOf
  rw [if_neg (by omega), if_neg (by omega)]
  omega
theorem at_q {i k : Nat} (hk : k < 8) : stepOf (16 * i + k) = i ∧ kOf (16 * i + k) = k ∧ (16 * i + k) % 16 < 8 := by
  unfold stepOf kOf
  rw [if_pos (by omega), if_pos (by omega)]
  omega
theorem at_only {i k j : Nat} (hi : 1 ≤ i) (h1 : stepOf j = i) (h2 : kOf j = k) : j = 16 * (i - 1) + (15 - k) ∨ j = 16 * i + k := by
  unfold stepOf at h1
  unfold kOf at h2
  split at h1
  · rename_i c
    rw [if_pos c] at h2
    omega
  · rename_i c
    rw [if_neg c] at h2
    omega
theorem kOf_lt (j : Nat) : kOf j < 8 := by
  unfold kOf
  split <;> omega
theorem meetTo_p {h : Nat → Int → Int → Int × Int} {f : Nat → Int} {i k : Nat} (hi : 1 ≤ i) (hk : k < 8) : meetTo h f i k (16 * (i - 1) + (15 - k)) = f (16 * (i - 1) + (15 - k)) := by
  obtain ⟨h1, h2, _⟩ := at_p hi hk
  unfold meetTo
  rw [h1, h2, if_neg (by omega)]
theorem meetTo_q {h : Nat → Int → Int → Int × Int} {f : Nat → Int} {i k : Nat} (hk : k < 8) : meetTo h f i k (16 * i + k) = f (16 * i + k) := by
  obtain ⟨h1, h2, _⟩ := at_q (i := i) hk
  unfold meetTo
  rw [h1, h2, if_neg (by omega)]
theorem meetTo_next {h : Nat → Int → Int → Int × Int} {f : Nat → Int} {i k : Nat} (hi : 1 ≤ i) (hk : k < 8) (j : Nat) :
    (if j = 16 * i + k then (h k (f (16 * (i - 1) + (15 - k))) (f (16 * i + k))).2 else if j = 16 * (i - 1) + (15 - k) then (h k (f (16 * (i - 1) + (15 - k))) (f (16 * i + k))).1 else meetTo h f i k j) = meetTo h f i (k + 1) j := by
  by_cases hq : j = 16 * i + k
  · obtain ⟨h1, h2, h3⟩ := at_q (i := i) hk
    rw [if_pos hq, hq]
    unfold meetTo meetVal
    rw [h1, h2, if_pos (by omega), if_pos h3]
  · rw [if_neg hq]
    by_cases hp : j = 16 * (i - 1) + (15 - k)
    · obtain ⟨h1, h2, h3⟩ := at_p hi hk
      rw [if_pos hp, hp]
      unfold meetTo meetVal
      rw [h1, h2, if_pos (by omega), if_neg h3]
    · rw [if_neg hp]
      unfold meetTo
      by_cases hc : 1 ≤ stepOf j ∧ (stepOf j < i ∨ stepOf j = i ∧ kOf j < k)
      · rw [if_pos hc, if_pos (by omega)]
      · rw [if_neg hc, if_neg fun hc2 => ?_]
        have : stepOf j = i ∧ kOf j = k := by omega
        rcases at_only hi this.1 this.2 with e | e
        · exact hp e
        · exact hq e
theorem meetTo_row {h : Nat → Int → Int → Int × Int} {f : Nat → Int} (i j : Nat) : meetTo h f i 8 j = meetTo h f (i + 1) 0 j := by
  have := kOf_lt j
  unfold meetTo
  by_cases hc : 1 ≤ stepOf j ∧ (stepOf j < i ∨ stepOf j = i ∧ kOf j < 8)
  · rw [if_pos hc, if_pos (by omega)]
  · rw [if_neg hc, if_neg (by omega)]
theorem meetTo_one {h : Nat → Int → Int → Int × Int} {f : Nat → Int} (j : Nat) : meetTo h f 1 0 j = f j := by
  unfold meetTo
  rw [if_neg (by omega)]
/-- All blocks of n, turned into one another where they meet. -/
def joinF (h : Nat → Int → Int → Int × Int) (n : Nat) (f : Nat → Int) (j : Nat) : Int := if 1 ≤ stepOf j ∧ stepOf j < n then meetVal h f j else f j
theorem meetTo_all {h : Nat → Int → Int → Int × Int} {f : Nat → Int} (n j : Nat) : meetTo h f n 0 j = joinF h n f j := by
  unfold meetTo joinF
  by_cases hc : 1 ≤ stepOf j ∧ stepOf j < n
  · rw [if_pos hc, if_pos (by omega)]
  · rw [if_neg hc, if_neg (by omega)]
/-- It can be taken back. -/
theorem joinF_back {h g : Nat → Int → Int → Int × Int} {R : Int → Prop} (hg : ∀ k x y, R x → R y → g k (h k x y).1 (h k x y).2 = (x, y)) {n : Nat} {f : Nat → Int} (hf : ∀ j, R (f j)) (j : Nat) : joinF g n (joinF h n f) j = f j := by
  show (if 1 ≤ stepOf j ∧ stepOf j < n then meetVal g (joinF h n f) j else joinF h n f j) = f j
  by_cases hc : 1 ≤ stepOf j ∧ stepOf j < n
  · rw [if_pos hc]
    obtain ⟨hs, hn⟩ := hc
    have hk := kOf_lt j
    obtain ⟨p1, p2, p3⟩ := at_p hs hk
    obtain ⟨q1, q2, q3⟩ := at_q (i := stepOf j) hk
    have e1 : joinF h n f (16 * (stepOf j - 1) + (15 - kOf j)) = (h (kOf j) (f (16 * (stepOf j - 1) + (15 - kOf j))) (f (16 * stepOf j + kOf j))).1 := by
      unfold joinF meetVal
      rw [p1, p2, if_pos ⟨hs, hn⟩, if_neg p3]
    have e2 : joinF h n f (16 * stepOf j + kOf j) = (h (kOf j) (f (16 * (stepOf j - 1) + (15 - kOf j))) (f (16 * stepOf j + kOf j))).2 := by
      unfold joinF meetVal
      rw [q1, q2, if_pos ⟨hs, hn⟩, if_pos q3]
    unfold meetVal
    rw [e1, e2, hg _ _ _ (hf _) (hf _)]
    rcases at_only hs rfl rfl with e | e
    · have hm : ¬ j % 16 < 8 := by rw [e]; exact p3
      rw [if_neg hm]
      exact congrArg f e.symm
    · have hm : j % 16 < 8 := by rw [e]; exact q3
      rw [if_pos hm]
      exact congrArg f e.symm
  · rw [if_neg hc]
    unfold joinF
    rw [if_neg hc]
end Go.Proofs.Ytgmlibigknnbmaa
