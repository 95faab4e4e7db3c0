/-
  Samples' spectra, and samples of spectra: what is done can be undone. Conditions: none.
-/
import Derived.Test.YtmmfgbifbbiihaaLapD
import Derived.KernelRfl
namespace Go.Proofs.Ytmmfgbifbbiihaa
open Go Go.Sx S
set_option maxRecDepth 100000
set_option linter.unusedVariables false
attribute [local simp] asI_i asB_b asL_l asN_n asS_s asE_nil altK_none altK_0 altK_1 altK_2 altK_3 optK_some optK_none Bool.cond_decide Bool.cond_not Int.toNat_natCast
set_option linter.unusedSimpArgs false
theorem blk_blk (G : Nat → List Int → List Int) (h : Nat → Int) (q : Nat) (hl : (G q (tbl 16 (fun c => h (16 * q + c)))).length = 16) : tbl 16 (fun c => blkF G h (16 * q + c)) = G q (tbl 16 (fun c => h (16 * q + c))) := by
  refine (tbl_congr rfl fun c hc => ?_).trans (tbl_of _ 16 hl).symm
  unfold blkF
  rw [show (16 * q + c) / 16 = q by omega, show (16 * q + c) % 16 = c by omega]
theorem blk_inv {G E : Nat → List Int → List Int} {h : Nat → Int} (hl : ∀ q, (G q (tbl 16 (fun c => h (16 * q + c)))).length = 16) (hd : ∀ q, E q (G q (tbl 16 (fun c => h (16 * q + c)))) = tbl 16 (fun c => h (16 * q + c))) : blkF E (blkF G h) = h := by
  funext j
  show (E (j / 16) (tbl 16 (fun c => blkF G h (16 * (j / 16) + c)))).getD (j % 16) 0 = h j
  rw [blk_blk G h _ (hl _), hd, tbl_getD (by omega)]
  congr 1
  omega
theorem tbl_all {n : Nat} {f : Nat → Int} (h : ∀ j, In64 (f j)) : All64 (tbl n f) := by
  intro k
  by_cases c : k < n
  · rw [tbl_getD c]
    exact h k
  · rw [List.getD_eq_getElem?_getD, List.getElem?_eq_none (by rw [tbl_len]; omega)]
    exact zero_in
theorem join_in {n : Nat} {f : Nat → Int} (h : ∀ j, In64 (f j)) (j : Nat) : In64 (joinF (hV turnV) n f j) := by
  unfold joinF meetVal hV
  split
  · split
    · exact (turn_in _ _ _ _).2
    · exact (turn_in _ _ _ _).1
  · exact h j
theorem spec_back {B : Nat} {f : Nat → Int} (h : ∀ j, In64 (f j)) : whF B (spF B f) = f := by
  unfold whF spF
  rw [blk_inv (G := fG) (E := iG) (h := joinF (hV turnV) B f) (fun q => fG_len (tbl_len _ _)) (fun q => by unfold iG fG; exact fwd_back _ (tbl_len _ _) (tbl_all (fun j => join_in h _)))]
  funext j
  exact joinF_back (R := In64) (h := hV turnV) (g := hV backV) (fun k x y hx hy => by unfold hV; exact back_turn _ _ hx hy) h j
def Held (x : Int) : Prop := -1048576 ≤ x ∧ x ≤ 1048576
theorem held_in {x : Int} (h : Held x) : In64 x := ⟨by have := h.1; omega, by have := h.2; omega⟩
theorem clV_held (x : Int) : Held (clV x) := by
  have h1 := Int.tmod_lt_of_pos x (show (0 : Int) < 1048576 by omega)
  have h2 := Int.lt_tmod_of_pos x (show (0 : Int) < 1048576 by omega)
  unfold Held clV
  split
  · omega
  · split <;> omega
theorem f0_held (l : List Int) (N j : Nat) : Held (f0 (fewV l) N j) := by
  unfold f0
  split
  · unfold fewV fewL
    rw [List.getD_eq_getElem?_getD, List.getElem?_map]
    cases (List.take 200 l)[j]? with
    | none => exact ⟨by decide, by decide⟩
    | some x => exact clV_held x
  · exact ⟨by decide, by decide⟩
theorem up_in {m : Nat} {G : List Int} {f : Nat → Int} (h : ∀ j, Held (f j)) (j : Nat) : In64 (blkF (uG m G) f j) := by
  unfold blkF uG
  split
  · unfold upB
    rw [tbl_getD (by omega)]
    exact w64_in _
  · rw [tbl_getD (by omega)]
    exact held_in (h _)
theorem up_back {m : Nat} {G : List Int} {f : Nat → Int} (h : ∀ j, Held (f j)) : blkF (dG m G) (blkF (uG m G) f) = f := by
  refine blk_inv (fun q => uG_len (tbl_len _ _)) fun q => ?_
  unfold dG uG
  by_cases c : q < m
  · rw [if_pos c, if_pos c]
    unfold dnB
    refine tbl_congr rfl fun j hj => ?_
    unfold upB
    rw [tbl_getD hj, tbl_getD hj]
    exact rnd_up _ _ (gAt_in _ j hj).1 (gAt_in _ j hj).2 (h _)
  · rw [if_neg c, if_neg c]
theorem lap_new' : g19 (0, []) = some (0, [.l TT]) := lap_new
theorem TT_drop : List.drop 32 ([0, 0, 0, 0, 0, 0, 0, 0, 0, 0, 0, 0, 0, 0, 0, 0, 0, 0, 0, 0, 0, 0, 0, 0, 0, 0, 0, 0, 0, 0, 0, 0] : List Int) = [] := rfl
theorem gL_len4 {g : List Int} {m : Nat} (h : g.length = 4 * m) : (gL g (min 20 m)).length = min 20 m * 4 := gL_len (by omega)
end Go.Proofs.Ytmmfgbifbbiihaa