/-
  What a part makes of a sample, whatever part it is: the program's and the document's. Conditions: none.
-/
import Derived.Test.YtlbfafbhflblcaaStg
namespace Go.Proofs.Ytlbfafbhflblcaa
open Go Go.Sx P
set_option maxRecDepth 100000
set_option linter.unusedVariables false
attribute [local simp] asI_i Zc Zd Zb ZQ Zj Zh Ze3 Za Zat Zk ZF Z0 Zag ZH Zau Bool.cond_decide Bool.cond_not Int.toNat_natCast
set_option linter.unusedSimpArgs false
theorem ZiV {s : Sg} (h : s.ok) {x y : Int} (hx : In16 x) (hy : In16 y) : trE ent27 14 s.toS [.ints .i64 [x, y]] = some (s.outL x y, s.outR x y, (s.nxt x y).toS) := by
  obtain ⟨⟨k, c0, c1, c2, c3, c4, d, b, w, g⟩, fl, fr, n, El, Er⟩ := s
  obtain ⟨hp, hl, hr⟩ := h
  replace hp : (k = 0 ∧ Fi.Right c0 c1 c2 c3 c4) ∨ (k = 1 ∧ Ec.RightE d b w) ∨ (k = 2 ∧ 0 ≤ g ∧ g ≤ 1024) ∨ k = 3 ∨ k = 4 := hp
  replace hl : fl.ok := hl
  replace hr : fr.ok := hr
  rcases hp with ⟨hk, hq⟩ | ⟨hk, hq⟩ | ⟨hk, hg⟩ | hk | hk
  · have hf := hq
    by_cases he : Ec.RightE d b w
    · simp only [if_true, if_false, Sg.toS, Sg.toP, Sg.nxt, Sg.outL, Sg.outR, Pt.rf, Pt.re, Sg.tell, Int.toNat_natCast, hf, he, if_pos hk]
      exact o0_0 _ _ _ _ _ _ _ _ _ _ _ _ hk hf hl hr
    · simp only [if_true, if_false, Sg.toS, Sg.toP, Sg.nxt, Sg.outL, Sg.outR, Pt.rf, Pt.re, Sg.tell, Int.toNat_natCast, hf, he, if_pos hk]
      exact o1_0  hk hf hl hr
  · obtain ⟨D, rfl⟩ : ∃ D : Nat, d = D := ⟨d.toNat, by unfold Ec.RightE at hq; omega⟩
    have he := hq
    by_cases hf : Fi.Right c0 c1 c2 c3 c4
    · simp only [if_true, if_false, Sg.toS, Sg.toP, Sg.nxt, Sg.outL, Sg.outR, Pt.rf, Pt.re, Sg.tell, Int.toNat_natCast, hf, he, if_neg (show ¬ k = 0 by omega), if_pos hk]
      exact o0_1 hk he hx hy
    · simp only [if_true, if_false, Sg.toS, Sg.toP, Sg.nxt, Sg.outL, Sg.outR, Pt.rf, Pt.re, Sg.tell, Int.toNat_natCast, hf, he, if_neg (show ¬ k = 0 by omega), if_pos hk]
      exact o2_1 hk he hx hy
  · by_cases hf : Fi.Right c0 c1 c2 c3 c4 <;> by_cases he : Ec.RightE d b w
    · simp only [if_true, if_false, Sg.toS, Sg.toP, Sg.nxt, Sg.outL, Sg.outR, Pt.rf, Pt.re, Sg.tell, Int.toNat_natCast, hf, he, if_neg (show ¬ k = 0 by omega), if_neg (show ¬ k = 1 by omega), if_pos hk]
      exact o0_2 _ _ _ _ _ _ _ _ _ _ _ _ hk hg hx hy
    · simp only [if_true, if_false, Sg.toS, Sg.toP, Sg.nxt, Sg.outL, Sg.outR, Pt.rf, Pt.re, Sg.tell, Int.toNat_natCast, hf, he, if_neg (show ¬ k = 0 by omega), if_neg (show ¬ k = 1 by omega), if_pos hk]
      exact o1_2  hk hg hx hy
    · simp only [if_true, if_false, Sg.toS, Sg.toP, Sg.nxt, Sg.outL, Sg.outR, Pt.rf, Pt.re, Sg.tell, Int.toNat_natCast, hf, he, if_neg (show ¬ k = 0 by omega), if_neg (show ¬ k = 1 by omega), if_pos hk]
      exact o2_2 _ _ _ _ _ _ _ _ _ _ _ _ hk hg hx hy
    · simp only [if_true, if_false, Sg.toS, Sg.toP, Sg.nxt, Sg.outL, Sg.outR, Pt.rf, Pt.re, Sg.tell, Int.toNat_natCast, hf, he, if_neg (show ¬ k = 0 by omega), if_neg (show ¬ k = 1 by omega), if_pos hk]
      exact o3_2  hk hg hx hy
  · by_cases hf : Fi.Right c0 c1 c2 c3 c4 <;> by_cases he : Ec.RightE d b w
    · simp only [if_true, if_false, Sg.toS, Sg.toP, Sg.nxt, Sg.outL, Sg.outR, Pt.rf, Pt.re, Sg.tell, Int.toNat_natCast, hf, he, if_neg (show ¬ k = 0 by omega), if_neg (show ¬ k = 1 by omega), if_neg (show ¬ k = 2 by omega), if_pos hk]
      exact o0_3 _ _ _ _ _ _ _ _ _ _ _ _ hk
    · simp only [if_true, if_false, Sg.toS, Sg.toP, Sg.nxt, Sg.outL, Sg.outR, Pt.rf, Pt.re, Sg.tell, Int.toNat_natCast, hf, he, if_neg (show ¬ k = 0 by omega), if_neg (show ¬ k = 1 by omega), if_neg (show ¬ k = 2 by omega), if_pos hk]
      exact o1_3  hk
    · simp only [if_true, if_false, Sg.toS, Sg.toP, Sg.nxt, Sg.outL, Sg.outR, Pt.rf, Pt.re, Sg.tell, Int.toNat_natCast, hf, he, if_neg (show ¬ k = 0 by omega), if_neg (show ¬ k = 1 by omega), if_neg (show ¬ k = 2 by omega), if_pos hk]
      exact o2_3 _ _ _ _ _ _ _ _ _ _ _ _ hk
    · simp only [if_true, if_false, Sg.toS, Sg.toP, Sg.nxt, Sg.outL, Sg.outR, Pt.rf, Pt.re, Sg.tell, Int.toNat_natCast, hf, he, if_neg (show ¬ k = 0 by omega), if_neg (show ¬ k = 1 by omega), if_neg (show ¬ k = 2 by omega), if_pos hk]
      exact o3_3  hk
  · by_cases hf : Fi.Right c0 c1 c2 c3 c4 <;> by_cases he : Ec.RightE d b w
    · simp only [if_true, if_false, Sg.toS, Sg.toP, Sg.nxt, Sg.outL, Sg.outR, Pt.rf, Pt.re, Sg.tell, Int.toNat_natCast, hf, he, if_neg (show ¬ k = 0 by omega), if_neg (show ¬ k = 1 by omega), if_neg (show ¬ k = 2 by omega), if_neg (show ¬ k = 3 by omega)]
      exact o0_4 _ _ _ _ _ _ _ _ _ _ _ _ hk hx hy
    · simp only [if_true, if_false, Sg.toS, Sg.toP, Sg.nxt, Sg.outL, Sg.outR, Pt.rf, Pt.re, Sg.tell, Int.toNat_natCast, hf, he, if_neg (show ¬ k = 0 by omega), if_neg (show ¬ k = 1 by omega), if_neg (show ¬ k = 2 by omega), if_neg (show ¬ k = 3 by omega)]
      exact o1_4  hk hx hy
    · simp only [if_true, if_false, Sg.toS, Sg.toP, Sg.nxt, Sg.outL, Sg.outR, Pt.rf, Pt.re, Sg.tell, Int.toNat_natCast, hf, he, if_neg (show ¬ k = 0 by omega), if_neg (show ¬ k = 1 by omega), if_neg (show ¬ k = 2 by omega), if_neg (show ¬ k = 3 by omega)]
      exact o2_4 _ _ _ _ _ _ _ _ _ _ _ _ hk hx hy
    · simp only [if_true, if_false, Sg.toS, Sg.toP, Sg.nxt, Sg.outL, Sg.outR, Pt.rf, Pt.re, Sg.tell, Int.toNat_natCast, hf, he, if_neg (show ¬ k = 0 by omega), if_neg (show ¬ k = 1 by omega), if_neg (show ¬ k = 2 by omega), if_neg (show ¬ k = 3 by omega)]
      exact o3_4  hk hx hy
theorem Zlh {s : Sg} (h : s.ok) (hn : s.n ≤ 1000) {x y : Int} (hx : In16 x) (hy : In16 y) : trE ent28 0 s.toP [.ints .i64 [x, y]] = some (s.outL x y, s.outR x y, (s.nxt x y).toP) := by
  obtain ⟨⟨k, c0, c1, c2, c3, c4, d, b, w, g⟩, fl, fr, n, El, Er⟩ := s
  obtain ⟨hp, hl, hr⟩ := h
  replace hp : (k = 0 ∧ Fi.Right c0 c1 c2 c3 c4) ∨ (k = 1 ∧ Ec.RightE d b w) ∨ (k = 2 ∧ 0 ≤ g ∧ g ≤ 1024) ∨ k = 3 ∨ k = 4 := hp
  replace hl : fl.ok := hl
  replace hr : fr.ok := hr
  replace hn : n ≤ 1000 := hn
  rcases hp with ⟨hk, hq⟩ | ⟨hk, hq⟩ | ⟨hk, hg⟩ | hk | hk
  · have hf := hq
    by_cases h0 : n = 0
    · subst h0
      simp only [if_true, if_false, Sg.toS, Sg.toP, Sg.nxt, Sg.outL, Sg.outR, Pt.rf, Pt.re, Sg.tell, Int.toNat_natCast, if_true, if_pos hk]
      exact p0_0 _ _ _ _ _ _ hk hf hl hr
    · simp only [if_true, if_false, Sg.toS, Sg.toP, Sg.nxt, Sg.outL, Sg.outR, Pt.rf, Pt.re, Sg.tell, Int.toNat_natCast, if_neg h0, if_pos hk]
      exact p1_0 _ _ _ _ _ _ _ _ _ _ hk hf hl hr
  · obtain ⟨D, rfl⟩ : ∃ D : Nat, d = D := ⟨d.toNat, by unfold Ec.RightE at hq; omega⟩
    have he := hq
    by_cases h0 : n = 0
    · subst h0
      simp only [if_true, if_false, Sg.toS, Sg.toP, Sg.nxt, Sg.outL, Sg.outR, Pt.rf, Pt.re, Sg.tell, Int.toNat_natCast, if_true, if_neg (show ¬ k = 0 by omega), if_pos hk, Nat.zero_add, if_neg (show ¬ 1 = 0 by omega)]
      exact p0_1  hk he hx hy
    · simp only [if_true, if_false, Sg.toS, Sg.toP, Sg.nxt, Sg.outL, Sg.outR, Pt.rf, Pt.re, Sg.tell, Int.toNat_natCast, if_neg h0, if_neg (show ¬ k = 0 by omega), if_pos hk, if_neg (show ¬ n + 1 = 0 by omega)]
      exact p1_1 hn hk he hx hy
  · by_cases h0 : n = 0
    · subst h0
      simp only [if_true, if_false, Sg.toS, Sg.toP, Sg.nxt, Sg.outL, Sg.outR, Pt.rf, Pt.re, Sg.tell, Int.toNat_natCast, if_true, if_neg (show ¬ k = 0 by omega), if_neg (show ¬ k = 1 by omega), if_pos hk]
      exact p0_2 _ _ _ _ _ _ hk hg hx hy
    · simp only [if_true, if_false, Sg.toS, Sg.toP, Sg.nxt, Sg.outL, Sg.outR, Pt.rf, Pt.re, Sg.tell, Int.toNat_natCast, if_neg h0, if_neg (show ¬ k = 0 by omega), if_neg (show ¬ k = 1 by omega), if_pos hk]
      exact p1_2 _ _ _ _ _ _ _ _ _ _ hk hg hx hy
  · by_cases h0 : n = 0
    · subst h0
      simp only [if_true, if_false, Sg.toS, Sg.toP, Sg.nxt, Sg.outL, Sg.outR, Pt.rf, Pt.re, Sg.tell, Int.toNat_natCast, if_true, if_neg (show ¬ k = 0 by omega), if_neg (show ¬ k = 1 by omega), if_neg (show ¬ k = 2 by omega), if_pos hk]
      exact p0_3 _ _ _ _ _ _ hk
    · simp only [if_true, if_false, Sg.toS, Sg.toP, Sg.nxt, Sg.outL, Sg.outR, Pt.rf, Pt.re, Sg.tell, Int.toNat_natCast, if_neg h0, if_neg (show ¬ k = 0 by omega), if_neg (show ¬ k = 1 by omega), if_neg (show ¬ k = 2 by omega), if_pos hk]
      exact p1_3 _ _ _ _ _ _ _ _ _ _ hk
  · by_cases h0 : n = 0
    · subst h0
      simp only [if_true, if_false, Sg.toS, Sg.toP, Sg.nxt, Sg.outL, Sg.outR, Pt.rf, Pt.re, Sg.tell, Int.toNat_natCast, if_true, if_neg (show ¬ k = 0 by omega), if_neg (show ¬ k = 1 by omega), if_neg (show ¬ k = 2 by omega), if_neg (show ¬ k = 3 by omega)]
      exact p0_4 _ _ _ _ _ _ hk hx hy
    · simp only [if_true, if_false, Sg.toS, Sg.toP, Sg.nxt, Sg.outL, Sg.outR, Pt.rf, Pt.re, Sg.tell, Int.toNat_natCast, if_neg h0, if_neg (show ¬ k = 0 by omega), if_neg (show ¬ k = 1 by omega), if_neg (show ¬ k = 2 by omega), if_neg (show ¬ k = 3 by omega)]
      exact p1_4 _ _ _ _ _ _ _ _ _ _ hk hx hy
end Go.Proofs.Ytlbfafbhflblcaa
