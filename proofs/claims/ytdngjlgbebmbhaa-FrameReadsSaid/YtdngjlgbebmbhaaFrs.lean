/-
  Read's whole answer, of any bytes. Conditions: none.
-/
import Derived.Test.YtdngjlgbebmbhaaFrr
namespace Go.Proofs.Ytdngjlgbebmbhaa
open Go Go.Sx G K
set_option maxRecDepth 100000
set_option maxHeartbeats 8000000
set_option linter.unusedVariables false
set_option linter.unusedSimpArgs false
attribute [local simp] asI_i asB_b asL_l asN_n asS_s asE_nil altK_none altK_0 altK_1 altK_2 altK_3 optK_some optK_none Bool.cond_decide Bool.cond_not Int.toNat_natCast
set_option linter.unusedSimpArgs false
def nfr (a : Nat → Int) (T : List Int) : List NC := [⟨a 0, []⟩, ⟨a 1, []⟩, ⟨a 2, []⟩, ⟨a 3, []⟩, ⟨0, T⟩, ⟨a 5, []⟩, ⟨a 6, []⟩, ⟨a 7, []⟩, ⟨a 8, []⟩, ⟨a 9, []⟩, ⟨a 10, []⟩, ⟨a 11, []⟩, ⟨a 12, []⟩, ⟨a 13, []⟩, ⟨a 14, []⟩, ⟨a 15, []⟩, ⟨a 16, []⟩, ⟨a 17, []⟩, ⟨a 18, []⟩, ⟨a 19, []⟩, ⟨a 20, []⟩, ⟨a 21, []⟩, ⟨a 22, []⟩, ⟨a 23, []⟩, ⟨a 24, []⟩, ⟨a 25, []⟩, ⟨a 26, []⟩, ⟨a 27, []⟩, ⟨a 28, []⟩]
def fln (a : Nat → Int) (e : Int) : List Leaf := [.i (a 0), .i (a 1), .i (a 2), .i (a 3), .i (a 5), .i (a 6), .i (a 7), .i (a 8), .i (a 9), .i (a 10), .i (a 11), .i (a 12), .i (a 13), .i (a 14), .i (a 15), .i (a 16), .i (a 17), .i (a 18), .i (a 19), .i (a 20), .i (a 21), .i (a 22), .i (a 23), .i (a 24), .i (a 25), .i (a 26), .i (a 27), .i (a 28), .i e]
def fls (a : Nat → Int) (N : Nat) (e : Int) (T : List Int) : List Leaf := [.i (a 0), .i (a 1), .i (a 2), .i (a 3), .n N, .i (a 5), .i (a 6), .i (a 7), .i (a 8), .i (a 9), .i (a 10), .i (a 11), .i (a 12), .i (a 13), .i (a 14), .i (a 15), .i (a 16), .i (a 17), .i (a 18), .i (a 19), .i (a 20), .i (a 21), .i (a 22), .i (a 23), .i (a 24), .i (a 25), .i (a 26), .i (a 27), .i (a 28), .i e, .l T]
theorem nfr_wf (a : Nat → Int) {T : List Int} {N : Nat} (h : T.length = N * 2) (hN : N ≤ 5) : WF (nfr a T) := by
  have e : Nc (nfr a T) = N := by show T.length / 2 = N; omega
  exact ⟨rfl, by rw [e]; exact h, by rw [e]; exact hN⟩
theorem nfr_a (a : Nat → Int) (T : List Int) : ∀ j, j < 29 → j ≠ 4 → Ac (nfr a T) j = a j := by
  intro j hj h4
  match j, hj, h4 with
  | 0, _, _ => rfl
  | 1, _, _ => rfl
  | 2, _, _ => rfl
  | 3, _, _ => rfl
  | 5, _, _ => rfl
  | 6, _, _ => rfl
  | 7, _, _ => rfl
  | 8, _, _ => rfl
  | 9, _, _ => rfl
  | 10, _, _ => rfl
  | 11, _, _ => rfl
  | 12, _, _ => rfl
  | 13, _, _ => rfl
  | 14, _, _ => rfl
  | 15, _, _ => rfl
  | 16, _, _ => rfl
  | 17, _, _ => rfl
  | 18, _, _ => rfl
  | 19, _, _ => rfl
  | 20, _, _ => rfl
  | 21, _, _ => rfl
  | 22, _, _ => rfl
  | 23, _, _ => rfl
  | 24, _, _ => rfl
  | 25, _, _ => rfl
  | 26, _, _ => rfl
  | 27, _, _ => rfl
  | 28, _, _ => rfl
  | 4, _, h => exact absurd rfl h
  | j + 29, h, _ => omega
theorem nfr_eq {a b : Nat → Int} (T : List Int) (h : ∀ j, j < 29 → j ≠ 4 → a j = b j) : nfr a T = nfr b T := by
  unfold nfr
  rw [h 0 (by omega) (by omega), h 1 (by omega) (by omega), h 2 (by omega) (by omega), h 3 (by omega) (by omega), h 5 (by omega) (by omega), h 6 (by omega) (by omega), h 7 (by omega) (by omega), h 8 (by omega) (by omega), h 9 (by omega) (by omega), h 10 (by omega) (by omega), h 11 (by omega) (by omega), h 12 (by omega) (by omega), h 13 (by omega) (by omega), h 14 (by omega) (by omega), h 15 (by omega) (by omega), h 16 (by omega) (by omega), h 17 (by omega) (by omega), h 18 (by omega) (by omega), h 19 (by omega) (by omega), h 20 (by omega) (by omega), h 21 (by omega) (by omega), h 22 (by omega) (by omega), h 23 (by omega) (by omega), h 24 (by omega) (by omega), h 25 (by omega) (by omega), h 26 (by omega) (by omega), h 27 (by omega) (by omega), h 28 (by omega) (by omega)]
theorem fln_eq {a b : Nat → Int} (e : Int) (h : ∀ j, j < 29 → j ≠ 4 → a j = b j) : fln a e = fln b e := by
  unfold fln
  rw [h 0 (by omega) (by omega), h 1 (by omega) (by omega), h 2 (by omega) (by omega), h 3 (by omega) (by omega), h 5 (by omega) (by omega), h 6 (by omega) (by omega), h 7 (by omega) (by omega), h 8 (by omega) (by omega), h 9 (by omega) (by omega), h 10 (by omega) (by omega), h 11 (by omega) (by omega), h 12 (by omega) (by omega), h 13 (by omega) (by omega), h 14 (by omega) (by omega), h 15 (by omega) (by omega), h 16 (by omega) (by omega), h 17 (by omega) (by omega), h 18 (by omega) (by omega), h 19 (by omega) (by omega), h 20 (by omega) (by omega), h 21 (by omega) (by omega), h 22 (by omega) (by omega), h 23 (by omega) (by omega), h 24 (by omega) (by omega), h 25 (by omega) (by omega), h 26 (by omega) (by omega), h 27 (by omega) (by omega), h 28 (by omega) (by omega)]
theorem fls_eq {a b : Nat → Int} (N : Nat) (e : Int) (T : List Int) (h : ∀ j, j < 29 → j ≠ 4 → a j = b j) : fls a N e T = fls b N e T := by
  unfold fls
  rw [h 0 (by omega) (by omega), h 1 (by omega) (by omega), h 2 (by omega) (by omega), h 3 (by omega) (by omega), h 5 (by omega) (by omega), h 6 (by omega) (by omega), h 7 (by omega) (by omega), h 8 (by omega) (by omega), h 9 (by omega) (by omega), h 10 (by omega) (by omega), h 11 (by omega) (by omega), h 12 (by omega) (by omega), h 13 (by omega) (by omega), h 14 (by omega) (by omega), h 15 (by omega) (by omega), h 16 (by omega) (by omega), h 17 (by omega) (by omega), h 18 (by omega) (by omega), h 19 (by omega) (by omega), h 20 (by omega) (by omega), h 21 (by omega) (by omega), h 22 (by omega) (by omega), h 23 (by omega) (by omega), h 24 (by omega) (by omega), h 25 (by omega) (by omega), h 26 (by omega) (by omega), h 27 (by omega) (by omega), h 28 (by omega) (by omega)]
theorem altK_of {x : Option (Nat × List Leaf)} {j : Nat} {r : List Leaf} (h : x = some (j, r)) (ks : List (List Leaf → Option (Nat × List Leaf))) (z : Option (Nat × List Leaf)) : altK x ks z = altK (some (j, r)) ks z := by rw [h]
theorem drop_0 (T : List Int) : List.drop (nat_lit 0) T = T := rfl
theorem read_0 (n : Nat) (B : List Int) : g31 (0, [.n n, .l B]) = some (0, [.n n, .l B, .i 0, .i 0]) := by
  simp -implicitDefEqProofs only [g31, g31_0, ↓K.asI4_i, ↓asI_i, ↓asN_n, ↓asL_l, ↓asB_b, ↓asX_x, ↓asE_nil, ↓y1, y2, y3, y4, y5, y6, ↓reduceIte, ↓altK_0, ↓altK_1, ↓altK_2, ↓altK_3, yg, ye, yf, ya, if_true, if_false]
def Fine (B : List Int) (n : Nat) : Prop := OKB B n ∧ anyK B (ps B 16) (8 * n - ps B 16) = false ∧ rB (nfr (fB B) (tl B (cnt B))) = true
def RA (B : List Int) (n : Nat) (x : Option (Nat × List Leaf)) : Prop := (∃ e, (e = 2 ∨ e = 4) ∧ x = some (0, fln (fun _ => 0) e) ∧ ¬ Fine B n) ∨ (Fine B n ∧ x = if cnt B = 0 then some (0, fln (fB B) 0) else some (1, fls (fB B) (cnt B) 0 (tl B (cnt B))))
section
variable (B : List Int) (n : Nat) (hB : ∀ x ∈ B, 0 ≤ x ∧ x ≤ 255) (hl : n ≤ B.length) (hn : n ≤ 1000)
theorem g3_all {a : Nat → Int} {N : Nat} {T : List Int} {at_ : Nat} (h : G3 B n a N T 16 at_ 0) : OKB B n ∧ at_ = ps B 16 ∧ N = cnt B ∧ T = tl B (cnt B) ∧ ∀ j, j < 29 → j ≠ 4 → a j = fB B j := by
  obtain ⟨h1, h2, h3, h4⟩ := h
  obtain ⟨y1, y2, y3, y4, y5, y6, y7, y8⟩ := h3 rfl
  refine ⟨⟨y2, fun k hk => (y6 k hk).2, fun k hk => (y7 k hk).2, by omega⟩, y1, y3, by rw [← y3]; exact y4, fun j hj h4 => ?_⟩
  by_cases c1 : j < 4
  · exact y5 j c1
  unfold fB
  rw [if_neg c1]
  by_cases c2 : j < 9
  · rw [if_pos c2]
    have := (y6 (j - 5) (by omega)).1
    rwa [show 5 + (j - 5) = j by omega] at this
  rw [if_neg c2]
  by_cases c3 : j < 13
  · rw [if_pos c3]
    have := (y7 (j - 9) (by omega)).1
    rwa [show 9 + (j - 9) = j by omega] at this
  rw [if_neg c3]
  have := y8 (j - 13) (by omega)
  rwa [show 13 + (j - 13) = j by omega] at this
include hB hl hn
theorem end_n (a : Nat → Int) (N : Nat) (hN : N ≤ 3) (T : List Int) (hT : T.length = N * 2) (h0 : N = 0) (at_ : Nat) (e : Int) (h : G3 B n a N T 16 at_ e) (x : Option (Nat × List Leaf))
    (hx : ∀ (e' : Int) (at' : Nat) (e2 : Int), g35 (0, [.n n, .l B, .i (at_ : Int), .i e]) = some (0, [.i e', .n n, .l B, .i (at' : Int), .i e2]) → (e' ≠ 0 → x = some (0, fln (fun _ => 0) e')) ∧ (e' = 0 → (rB (nfr a T) = false → x = some (0, fln (fun _ => 0) 4)) ∧ (rB (nfr a T) = true → x = some (0, fln a 0)))) : RA B n x := by
  by_cases he : e = 0
  · subst he
    obtain ⟨g1, g2, g3, g4, g5⟩ := g3_all B n h
    have hlen := g1.len
    subst g2
    obtain ⟨a', _, _, he⟩ := end_0 B n hB hl hn (ps B 16) hlen
    obtain ⟨x1, x2⟩ := hx _ _ _ he
    by_cases c : anyK B (ps B 16) (8 * n - ps B 16) = true
    · rw [if_pos c] at x1
      exact .inl ⟨4, .inr rfl, x1 (by omega), fun hf => by rw [hf.2.1] at c; cases c⟩
    · have c' : anyK B (ps B 16) (8 * n - ps B 16) = false := by simpa using c
      rw [if_neg c] at x2
      obtain ⟨x3, x4⟩ := x2 rfl
      have e1 : nfr a T = nfr (fB B) (tl B (cnt B)) := by rw [g4]; exact nfr_eq _ g5
      rw [e1] at x3 x4
      cases hr : rB (nfr (fB B) (tl B (cnt B))) with
      | false => exact .inl ⟨4, .inr rfl, x3 hr, fun hf => by rw [hf.2.2] at hr; cases hr⟩
      | true =>
        refine .inr ⟨⟨g1, c', hr⟩, ?_⟩
        rw [x4 hr]
        rw [if_pos (by omega), fln_eq 0 g5]
  · obtain ⟨h1, h2, h3, h4⟩ := h
    obtain ⟨x1, _⟩ := hx _ _ _ (end_e B n at_ e he)
    exact .inl ⟨e, h2.resolve_left he, x1 he, fun hf => h4 he hf.1⟩
theorem end_s (a : Nat → Int) (N : Nat) (hN : N ≤ 3) (T : List Int) (hT : T.length = N * 2) (h0 : N ≠ 0) (at_ : Nat) (e : Int) (h : G3 B n a N T 16 at_ e) (x : Option (Nat × List Leaf))
    (hx : ∀ (e' : Int) (at' : Nat) (e2 : Int), g35 (0, [.n n, .l B, .i (at_ : Int), .i e]) = some (0, [.i e', .n n, .l B, .i (at' : Int), .i e2]) → (e' ≠ 0 → x = some (0, fln (fun _ => 0) e')) ∧ (e' = 0 → (rB (nfr a T) = false → x = some (0, fln (fun _ => 0) 4)) ∧ (rB (nfr a T) = true → x = some (1, fls a N 0 T)))) : RA B n x := by
  by_cases he : e = 0
  · subst he
    obtain ⟨g1, g2, g3, g4, g5⟩ := g3_all B n h
    have hlen := g1.len
    subst g2
    obtain ⟨a', _, _, he⟩ := end_0 B n hB hl hn (ps B 16) hlen
    obtain ⟨x1, x2⟩ := hx _ _ _ he
    by_cases c : anyK B (ps B 16) (8 * n - ps B 16) = true
    · rw [if_pos c] at x1
      exact .inl ⟨4, .inr rfl, x1 (by omega), fun hf => by rw [hf.2.1] at c; cases c⟩
    · have c' : anyK B (ps B 16) (8 * n - ps B 16) = false := by simpa using c
      rw [if_neg c] at x2
      obtain ⟨x3, x4⟩ := x2 rfl
      have e1 : nfr a T = nfr (fB B) (tl B (cnt B)) := by rw [g4]; exact nfr_eq _ g5
      rw [e1] at x3 x4
      cases hr : rB (nfr (fB B) (tl B (cnt B))) with
      | false => exact .inl ⟨4, .inr rfl, x3 hr, fun hf => by rw [hf.2.2] at hr; cases hr⟩
      | true =>
        refine .inr ⟨⟨g1, c', hr⟩, ?_⟩
        rw [x4 hr]
        rw [if_neg (by omega), fls_eq N 0 T g5, g3, g4]
  · obtain ⟨h1, h2, h3, h4⟩ := h
    obtain ⟨x1, _⟩ := hx _ _ _ (end_e B n at_ e he)
    exact .inl ⟨e, h2.resolve_left he, x1 he, fun hf => h4 he hf.1⟩
theorem read_ok : RA B n (g18 (0, [.n n, .l B])) := by
  obtain ⟨v, at_, e, u1, u2, u3, u4, u5, u6, u7⟩ := get_step B n hB hl hn 2 (by omega) 0 0 (by omega) (.inl rfl)
  have u1 : g32 (0, [.i 2, .n n, .l B, .i 0, .i 0]) = some (0, [.i v, .n n, .l B, .i (at_ : Int), .i e]) := u1
  by_cases c : v = 1
  · subst c
    have hg : G0 B n 0 (fun _ => 0) at_ e := by
      refine ⟨u2, u3, fun z => ?_, fun z hO => ?_⟩
      · obtain ⟨z1, z2, z3, z4⟩ := u4 z
        exact ⟨by omega, z3.symm, fun j hj => by omega⟩
      · rcases u5 z with ⟨z1, z2⟩ | ⟨z1, z2⟩
        · exact z1 rfl
        · have := hO.len; have := ps_0 B; omega
    obtain ⟨a1, at1, e1, l0, G⟩ := run0 B n hB hl hn (fun _ => 0) at_ e hg
    obtain ⟨q1, q2, q3, q4⟩ := G
    obtain ⟨v2, at2, e2, w1, w2, w3, w4, w5, w6, w7⟩ := get_step B n hB hl hn 2 (by omega) at1 e1 q1 q2
    have w1 : g32 (0, [.i 2, .n n, .l B, .i (at1 : Int), .i e1]) = some (0, [.i v2, .n n, .l B, .i (at2 : Int), .i e2]) := w1
    have p2 : pw 2 = 4 := rfl
    obtain ⟨c0, rfl⟩ : ∃ c : Nat, v2 = c := ⟨v2.toNat, by omega⟩
    have hG1 : G1 B n a1 c0 0 [] at2 e2 := by
      refine ⟨w2, w3, rfl, fun z => ?_, fun z hO => ?_⟩
      · obtain ⟨z1, z2, z3, z4⟩ := w4 z
        obtain ⟨y1, y2, y3⟩ := q3 z1
        subst y1
        exact ⟨z4, y2, y3, by have z3 : (c0 : Int) = vK B 10 2 := z3; unfold cnt; omega, rfl⟩
      · rcases w5 z with ⟨z1, z2⟩ | ⟨z1, z2⟩
        · exact q4 z1 hO
        · have := (q3 z1).1; have := hO.len; have := ps_0 B; omega
    obtain ⟨T, at3, e3, hG, l1⟩ := run1 B n hB hl hn a1 c0 (by omega) at2 e2 hG1
    have hG2 : G2 B n a1 c0 T 0 at3 e3 := by
      obtain ⟨t1, t2, t3, t4, t5⟩ := hG
      refine ⟨t1, t2, fun z => ?_, t5⟩
      obtain ⟨y1, y2, y3, y4, y5⟩ := t4 z
      exact ⟨by omega, y2, y4, y5, y3, fun j hj => by omega, fun j hj => by omega⟩
    have hT : T.length = c0 * 2 := hG.2.2.1
    have g23 : ∀ {a : Nat → Int} {at_ : Nat} {e : Int}, G2 B n a c0 T 4 at_ e → G3 B n a c0 T 0 at_ e := fun {a at_ e} ⟨t1, t2, t4, t5⟩ => by
      refine ⟨t1, t2, fun z => ?_, t5⟩
      obtain ⟨y1, y2, y3, y4, y5, y6, y7⟩ := t4 z
      exact ⟨by unfold ps; omega, y2, y3, y4, y5, y6, y7, fun j hj => by omega⟩
    simp only [stn] at l0
    by_cases hc : c0 = 0
    · rw [if_pos hc] at l1
      obtain rfl : T = [] := List.length_eq_zero_iff.1 (by omega)
      obtain ⟨a4, at4, e4, l2, hG4⟩ := run2n B n hB hl hn a1 c0 [] at3 e3 hG2
      obtain ⟨a5, at5, e5, l3, hG5⟩ := run3n B n hB hl hn a4 c0 [] at4 e4 (g23 hG4)
      simp only [stn] at l1 l2 l3
      refine end_n B n hB hl hn a5 c0 (by omega) [] hT hc at5 e5 hG5 _ fun e' at' e2 hE => ⟨fun z => ?_, fun z => ⟨fun hr => ?_, fun hr => ?_⟩⟩
      · have z' : (e' = 0) = False := eq_false z
        simp -implicitDefEqProofs only [g18, g18_0, fln, ↓K.asI4_i, ↓asI_i, ↓asN_n, ↓asL_l, ↓asB_b, ↓asX_x, ↓asE_nil, ↓y1, y2, y3, y4, y5, y6, ↓reduceIte, ↓altK_0, ↓altK_1, ↓altK_2, ↓altK_3, yg, ye, yf, ya, if_true, if_false, ↓altK_of (read_0 n B), ↓altK_of u1, ↓altK_of l0, ↓altK_of w1, ↓altK_of l1, ↓altK_of l2, ↓altK_of l3, ↓altK_of hE, z']
      · subst z
        have hR := right_ok (nfr a5 []) (nfr_wf a5 (N := 0) rfl (by omega))
        rw [hr] at hR
        unfold nfr at hR
        simp -implicitDefEqProofs only [g18, g18_0, fln, ↓K.asI4_i, ↓asI_i, ↓asN_n, ↓asL_l, ↓asB_b, ↓asX_x, ↓asE_nil, ↓y1, y2, y3, y4, y5, y6, ↓reduceIte, ↓altK_0, ↓altK_1, ↓altK_2, ↓altK_3, yg, ye, yf, ya, if_true, if_false, ↓altK_of (read_0 n B), ↓altK_of u1, ↓altK_of l0, ↓altK_of w1, ↓altK_of l1, ↓altK_of l2, ↓altK_of l3, ↓altK_of hE, ↓altK_of hR]
      · subst z
        have hR := right_ok (nfr a5 []) (nfr_wf a5 (N := 0) rfl (by omega))
        rw [hr] at hR
        unfold nfr at hR
        simp -implicitDefEqProofs only [g18, g18_0, fln, ↓K.asI4_i, ↓asI_i, ↓asN_n, ↓asL_l, ↓asB_b, ↓asX_x, ↓asE_nil, ↓y1, y2, y3, y4, y5, y6, ↓reduceIte, ↓altK_0, ↓altK_1, ↓altK_2, ↓altK_3, yg, ye, yf, ya, if_true, if_false, ↓altK_of (read_0 n B), ↓altK_of u1, ↓altK_of l0, ↓altK_of w1, ↓altK_of l1, ↓altK_of l2, ↓altK_of l3, ↓altK_of hE, ↓altK_of hR]
    · rw [if_neg hc] at l1
      obtain ⟨a4, at4, e4, l2, hG4⟩ := run2s B n hB hl hn a1 c0 T at3 e3 hG2
      obtain ⟨a5, at5, e5, l3, hG5⟩ := run3s B n hB hl hn a4 c0 T at4 e4 (g23 hG4)
      simp only [stn, sts] at l1 l2 l3
      have hTk : List.take (c0 * 2) T = T := List.take_of_length_le (by omega)
      have hTl : c0 * 2 ≤ T.length := by omega
      refine end_s B n hB hl hn a5 c0 (by omega) T hT hc at5 e5 hG5 _ fun e' at' e2 hE => ⟨fun z => ?_, fun z => ⟨fun hr => ?_, fun hr => ?_⟩⟩
      · have z' : (e' = 0) = False := eq_false z
        simp -implicitDefEqProofs only [g18, g18_0, fln, ↓K.asI4_i, ↓asI_i, ↓asN_n, ↓asL_l, ↓asB_b, ↓asX_x, ↓asE_nil, ↓y1, y2, y3, y4, y5, y6, ↓reduceIte, ↓altK_0, ↓altK_1, ↓altK_2, ↓altK_3, yg, ye, yf, ya, if_true, if_false, ↓altK_of (read_0 n B), ↓altK_of u1, ↓altK_of l0, ↓altK_of w1, ↓altK_of l1, ↓altK_of l2, ↓altK_of l3, ↓altK_of hE, z']
      · subst z
        have hR := right_ok (nfr a5 T) (nfr_wf a5 hT (by omega))
        rw [hr] at hR
        unfold nfr at hR
        simp -implicitDefEqProofs only [g18, g18_0, fln, ↓K.asI4_i, ↓asI_i, ↓asN_n, ↓asL_l, ↓asB_b, ↓asX_x, ↓asE_nil, ↓y1, y2, y3, y4, y5, y6, ↓reduceIte, ↓altK_0, ↓altK_1, ↓altK_2, ↓altK_3, yg, ye, yf, ya, if_true, if_false, ↓altK_of (read_0 n B), ↓altK_of u1, ↓altK_of l0, ↓altK_of w1, ↓altK_of l1, ↓altK_of l2, ↓altK_of l3, ↓altK_of hE, ↓altK_of hR, drop_0, hTk, hTl, Nat.zero_add]
      · subst z
        have hR := right_ok (nfr a5 T) (nfr_wf a5 hT (by omega))
        rw [hr] at hR
        unfold nfr at hR
        simp -implicitDefEqProofs only [g18, g18_0, fls, ↓K.asI4_i, ↓asI_i, ↓asN_n, ↓asL_l, ↓asB_b, ↓asX_x, ↓asE_nil, ↓y1, y2, y3, y4, y5, y6, ↓reduceIte, ↓altK_0, ↓altK_1, ↓altK_2, ↓altK_3, yg, ye, yf, ya, if_true, if_false, ↓altK_of (read_0 n B), ↓altK_of u1, ↓altK_of l0, ↓altK_of w1, ↓altK_of l1, ↓altK_of l2, ↓altK_of l3, ↓altK_of hE, ↓altK_of hR, drop_0, hTk, hTl, Nat.zero_add]
  · have c' : (v = 1) = False := eq_false c
    obtain ⟨ef, f1, f2, f3⟩ := fail_step B n at_ e
    have hg : G0 B n 0 (fun _ => 0) at_ ef := by
      refine ⟨u2, f3 u3, fun z => absurd z f2, fun z hO => ?_⟩
      by_cases z : e = 0
      · exact c ((u4 z).2.2.1.trans hO.first)
      · rcases u5 z with ⟨z1, z2⟩ | ⟨z1, z2⟩
        · exact z1 rfl
        · have := hO.len; have := ps_0 B; omega
    obtain ⟨a1, at1, e1, l0, G⟩ := run0 B n hB hl hn (fun _ => 0) at_ ef hg
    obtain ⟨q1, q2, q3, q4⟩ := G
    obtain ⟨v2, at2, e2, w1, w2, w3, w4, w5, w6, w7⟩ := get_step B n hB hl hn 2 (by omega) at1 e1 q1 q2
    have w1 : g32 (0, [.i 2, .n n, .l B, .i (at1 : Int), .i e1]) = some (0, [.i v2, .n n, .l B, .i (at2 : Int), .i e2]) := w1
    have p2 : pw 2 = 4 := rfl
    obtain ⟨c0, rfl⟩ : ∃ c : Nat, v2 = c := ⟨v2.toNat, by omega⟩
    have hG1 : G1 B n a1 c0 0 [] at2 e2 := by
      refine ⟨w2, w3, rfl, fun z => ?_, fun z hO => ?_⟩
      · obtain ⟨z1, z2, z3, z4⟩ := w4 z
        obtain ⟨y1, y2, y3⟩ := q3 z1
        subst y1
        exact ⟨z4, y2, y3, by have z3 : (c0 : Int) = vK B 10 2 := z3; unfold cnt; omega, rfl⟩
      · rcases w5 z with ⟨z1, z2⟩ | ⟨z1, z2⟩
        · exact q4 z1 hO
        · have := (q3 z1).1; have := hO.len; have := ps_0 B; omega
    obtain ⟨T, at3, e3, hG, l1⟩ := run1 B n hB hl hn a1 c0 (by omega) at2 e2 hG1
    have hG2 : G2 B n a1 c0 T 0 at3 e3 := by
      obtain ⟨t1, t2, t3, t4, t5⟩ := hG
      refine ⟨t1, t2, fun z => ?_, t5⟩
      obtain ⟨y1, y2, y3, y4, y5⟩ := t4 z
      exact ⟨by omega, y2, y4, y5, y3, fun j hj => by omega, fun j hj => by omega⟩
    have hT : T.length = c0 * 2 := hG.2.2.1
    have g23 : ∀ {a : Nat → Int} {at_ : Nat} {e : Int}, G2 B n a c0 T 4 at_ e → G3 B n a c0 T 0 at_ e := fun {a at_ e} ⟨t1, t2, t4, t5⟩ => by
      refine ⟨t1, t2, fun z => ?_, t5⟩
      obtain ⟨y1, y2, y3, y4, y5, y6, y7⟩ := t4 z
      exact ⟨by unfold ps; omega, y2, y3, y4, y5, y6, y7, fun j hj => by omega⟩
    simp only [stn] at l0
    by_cases hc : c0 = 0
    · rw [if_pos hc] at l1
      obtain rfl : T = [] := List.length_eq_zero_iff.1 (by omega)
      obtain ⟨a4, at4, e4, l2, hG4⟩ := run2n B n hB hl hn a1 c0 [] at3 e3 hG2
      obtain ⟨a5, at5, e5, l3, hG5⟩ := run3n B n hB hl hn a4 c0 [] at4 e4 (g23 hG4)
      simp only [stn] at l1 l2 l3
      refine end_n B n hB hl hn a5 c0 (by omega) [] hT hc at5 e5 hG5 _ fun e' at' e2 hE => ⟨fun z => ?_, fun z => ⟨fun hr => ?_, fun hr => ?_⟩⟩
      · have z' : (e' = 0) = False := eq_false z
        simp -implicitDefEqProofs only [g18, g18_0, fln, ↓K.asI4_i, ↓asI_i, ↓asN_n, ↓asL_l, ↓asB_b, ↓asX_x, ↓asE_nil, ↓y1, y2, y3, y4, y5, y6, ↓reduceIte, ↓altK_0, ↓altK_1, ↓altK_2, ↓altK_3, yg, ye, yf, ya, if_true, if_false, ↓altK_of (read_0 n B), ↓altK_of u1, c', ↓altK_of f1, ↓altK_of l0, ↓altK_of w1, ↓altK_of l1, ↓altK_of l2, ↓altK_of l3, ↓altK_of hE, z']
      · subst z
        have hR := right_ok (nfr a5 []) (nfr_wf a5 (N := 0) rfl (by omega))
        rw [hr] at hR
        unfold nfr at hR
        simp -implicitDefEqProofs only [g18, g18_0, fln, ↓K.asI4_i, ↓asI_i, ↓asN_n, ↓asL_l, ↓asB_b, ↓asX_x, ↓asE_nil, ↓y1, y2, y3, y4, y5, y6, ↓reduceIte, ↓altK_0, ↓altK_1, ↓altK_2, ↓altK_3, yg, ye, yf, ya, if_true, if_false, ↓altK_of (read_0 n B), ↓altK_of u1, c', ↓altK_of f1, ↓altK_of l0, ↓altK_of w1, ↓altK_of l1, ↓altK_of l2, ↓altK_of l3, ↓altK_of hE, ↓altK_of hR]
      · subst z
        have hR := right_ok (nfr a5 []) (nfr_wf a5 (N := 0) rfl (by omega))
        rw [hr] at hR
        unfold nfr at hR
        simp -implicitDefEqProofs only [g18, g18_0, fln, ↓K.asI4_i, ↓asI_i, ↓asN_n, ↓asL_l, ↓asB_b, ↓asX_x, ↓asE_nil, ↓y1, y2, y3, y4, y5, y6, ↓reduceIte, ↓altK_0, ↓altK_1, ↓altK_2, ↓altK_3, yg, ye, yf, ya, if_true, if_false, ↓altK_of (read_0 n B), ↓altK_of u1, c', ↓altK_of f1, ↓altK_of l0, ↓altK_of w1, ↓altK_of l1, ↓altK_of l2, ↓altK_of l3, ↓altK_of hE, ↓altK_of hR]
    · rw [if_neg hc] at l1
      obtain ⟨a4, at4, e4, l2, hG4⟩ := run2s B n hB hl hn a1 c0 T at3 e3 hG2
      obtain ⟨a5, at5, e5, l3, hG5⟩ := run3s B n hB hl hn a4 c0 T at4 e4 (g23 hG4)
      simp only [stn, sts] at l1 l2 l3
      have hTk : List.take (c0 * 2) T = T := List.take_of_length_le (by omega)
      have hTl : c0 * 2 ≤ T.length := by omega
      refine end_s B n hB hl hn a5 c0 (by omega) T hT hc at5 e5 hG5 _ fun e' at' e2 hE => ⟨fun z => ?_, fun z => ⟨fun hr => ?_, fun hr => ?_⟩⟩
      · have z' : (e' = 0) = False := eq_false z
        simp -implicitDefEqProofs only [g18, g18_0, fln, ↓K.asI4_i, ↓asI_i, ↓asN_n, ↓asL_l, ↓asB_b, ↓asX_x, ↓asE_nil, ↓y1, y2, y3, y4, y5, y6, ↓reduceIte, ↓altK_0, ↓altK_1, ↓altK_2, ↓altK_3, yg, ye, yf, ya, if_true, if_false, ↓altK_of (read_0 n B), ↓altK_of u1, c', ↓altK_of f1, ↓altK_of l0, ↓altK_of w1, ↓altK_of l1, ↓altK_of l2, ↓altK_of l3, ↓altK_of hE, z']
      · subst z
        have hR := right_ok (nfr a5 T) (nfr_wf a5 hT (by omega))
        rw [hr] at hR
        unfold nfr at hR
        simp -implicitDefEqProofs only [g18, g18_0, fln, ↓K.asI4_i, ↓asI_i, ↓asN_n, ↓asL_l, ↓asB_b, ↓asX_x, ↓asE_nil, ↓y1, y2, y3, y4, y5, y6, ↓reduceIte, ↓altK_0, ↓altK_1, ↓altK_2, ↓altK_3, yg, ye, yf, ya, if_true, if_false, ↓altK_of (read_0 n B), ↓altK_of u1, c', ↓altK_of f1, ↓altK_of l0, ↓altK_of w1, ↓altK_of l1, ↓altK_of l2, ↓altK_of l3, ↓altK_of hE, ↓altK_of hR, drop_0, hTk, hTl, Nat.zero_add]
      · subst z
        have hR := right_ok (nfr a5 T) (nfr_wf a5 hT (by omega))
        rw [hr] at hR
        unfold nfr at hR
        simp -implicitDefEqProofs only [g18, g18_0, fls, ↓K.asI4_i, ↓asI_i, ↓asN_n, ↓asL_l, ↓asB_b, ↓asX_x, ↓asE_nil, ↓y1, y2, y3, y4, y5, y6, ↓reduceIte, ↓altK_0, ↓altK_1, ↓altK_2, ↓altK_3, yg, ye, yf, ya, if_true, if_false, ↓altK_of (read_0 n B), ↓altK_of u1, c', ↓altK_of f1, ↓altK_of l0, ↓altK_of w1, ↓altK_of l1, ↓altK_of l2, ↓altK_of l3, ↓altK_of hE, ↓altK_of hR, drop_0, hTk, hTl, Nat.zero_add]
end
end Go.Proofs.Ytdngjlgbebmbhaa
