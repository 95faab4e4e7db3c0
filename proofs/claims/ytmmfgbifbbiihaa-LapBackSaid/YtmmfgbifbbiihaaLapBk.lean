/-
  The law that any samples are found again of their spectra. Conditions: none.
-/
import Derived.Test.YtmmfgbifbbiihaaLapE
import Derived.Test.YtmmfgbifbbiihaaDecS7
import Derived.KernelRfl
namespace Go.Proofs.Ytmmfgbifbbiihaa
open Go Go.Sx S
set_option maxRecDepth 100000
set_option linter.unusedVariables false
attribute [local simp] asI_i asB_b asL_l asN_n asS_s asE_nil altK_none altK_0 altK_1 altK_2 altK_3 optK_some optK_none Bool.cond_decide Bool.cond_not Int.toNat_natCast
set_option linter.unusedSimpArgs false

theorem bk_lg (n m : Nat) (l G : List Int) (hn : l.length = n) (hG : G.length = 4 * m) (h1 : 1 ≤ n) (h2 : 1 ≤ m) (hm : n < 9223372036854775808) (hm' : m < 9223372036854775808) : g7 (0, [.n n, .n m, .l l, .l G]) = some (0, [.b true, .l l, .l G]) := by
  have e1 := few_ok l n hn h1 hm
  have e2 := fewG_ok m G hG h2 hm'
  have hlen := fewV_len l
  generalize hN : min 200 n = N at *
  generalize hM : min 20 m = M at *
  have hgl : (gL G M).length = M * 4 := by rw [← hM]; exact gL_len4 hG
  generalize gL G M = H at *
  have e3 := spec_g N ((N + 15) / 16) M (fewV l) H (by omega) (by omega) (by omega) rfl hgl
  have e4 := whole_g N ((N + 15) / 16) M (spF ((N + 15) / 16) (blkF (uG M H) (f0 (fewV l) N))) H (by omega) (by omega) (by omega) hgl
  rw [spec_back (up_in fun j => f0_held l N j), up_back fun j => f0_held l N j] at e4
  have e5 := same_ok N (tbl (16 * ((N + 15) / 16)) (f0 (fewV l) N)) (fewV l) (by rw [tbl_len]; omega) (by omega) (by omega) fun k hk => by rw [tbl_getD (by omega)]; exact if_pos hk
  generalize tbl (16 * ((N + 15) / 16)) (f0 (fewV l) N) = X at *
  generalize tbl (16 * ((N + 15) / 16)) _ = Y at *
  generalize fewV l = L at *
  simp -implicitDefEqProofs only [g7, g7_0, asI_i, asN_n, asL_l, asB_b, asE_nil, Bool.cond_decide, e1, altK_1, e2, altK_3, lap_new', TT_len, Nat.zero_add, Nat.le_refl, if_true, TT_drop, List.append_nil, TT_32, altK_0, e3, e4, e5, cond_true, awakeL_ok]
theorem bk_l0 (n : Nat) (l G : List Int) (hn : l.length = n) (h1 : 1 ≤ n) (hm : n < 9223372036854775808) : g7 (0, [.n n, .n 0, .l l, .l G]) = some (0, [.b true, .l l, .l G]) := by
  have e1 := few_ok l n hn h1 hm
  have hlen := fewV_len l
  generalize hN : min 200 n = N at *
  have e3 := spec_n N ((N + 15) / 16) (fewV l) (by omega) (by omega) (by omega) rfl
  have e4 := whole_n N ((N + 15) / 16) (spF ((N + 15) / 16) (f0 (fewV l) N)) (by omega) (by omega) (by omega)
  rw [spec_back fun j => held_in (f0_held l N j)] at e4
  have e5 := same_ok N (tbl (16 * ((N + 15) / 16)) (f0 (fewV l) N)) (fewV l) (by rw [tbl_len]; omega) (by omega) (by omega) fun k hk => by rw [tbl_getD (by omega)]; exact if_pos hk
  generalize tbl (16 * ((N + 15) / 16)) (f0 (fewV l) N) = X at *
  generalize tbl (16 * ((N + 15) / 16)) _ = Y at *
  generalize fewV l = L at *
  simp -implicitDefEqProofs only [g7, g7_0, asI_i, asN_n, asL_l, asB_b, asE_nil, Bool.cond_decide, e1, altK_1, fewG_0, altK_0, lap_new', TT_len, Nat.zero_add, Nat.le_refl, if_true, TT_drop, List.append_nil, TT_32, altK_0, e3, altK_3, e4, e5, cond_true, awakeL_ok]
theorem bk_ln (n : Nat) (l : List Int) (hn : l.length = n) (h1 : 1 ≤ n) (hm : n < 9223372036854775808) : g7 (1, [.n n, .l l]) = some (1, [.b true, .l l]) := by
  have e1 := few_ok l n hn h1 hm
  have hlen := fewV_len l
  generalize hN : min 200 n = N at *
  have e3 := spec_n N ((N + 15) / 16) (fewV l) (by omega) (by omega) (by omega) rfl
  have e4 := whole_n N ((N + 15) / 16) (spF ((N + 15) / 16) (f0 (fewV l) N)) (by omega) (by omega) (by omega)
  rw [spec_back fun j => held_in (f0_held l N j)] at e4
  have e5 := same_ok N (tbl (16 * ((N + 15) / 16)) (f0 (fewV l) N)) (fewV l) (by rw [tbl_len]; omega) (by omega) (by omega) fun k hk => by rw [tbl_getD (by omega)]; exact if_pos hk
  generalize tbl (16 * ((N + 15) / 16)) (f0 (fewV l) N) = X at *
  generalize tbl (16 * ((N + 15) / 16)) _ = Y at *
  generalize fewV l = L at *
  simp -implicitDefEqProofs only [g7, g7_1, asI_i, asN_n, asL_l, asB_b, asE_nil, Bool.cond_decide, e1, altK_1, fewG_nil, altK_1, lap_new', TT_len, Nat.zero_add, Nat.le_refl, if_true, TT_drop, List.append_nil, TT_32, altK_0, e3, altK_3, e4, e5, cond_true, awakeL_ok]
theorem bk_ld (n : Nat) (l : List Int) (hn : l.length = n) (h1 : 1 ≤ n) (hm : n < 9223372036854775808) : g7 (2, [.n n, .n 0, .l l]) = some (2, [.b true, .l l]) := by
  have e1 := few_ok l n hn h1 hm
  have hlen := fewV_len l
  generalize hN : min 200 n = N at *
  have e3 := spec_n N ((N + 15) / 16) (fewV l) (by omega) (by omega) (by omega) rfl
  have e4 := whole_n N ((N + 15) / 16) (spF ((N + 15) / 16) (f0 (fewV l) N)) (by omega) (by omega) (by omega)
  rw [spec_back fun j => held_in (f0_held l N j)] at e4
  have e5 := same_ok N (tbl (16 * ((N + 15) / 16)) (f0 (fewV l) N)) (fewV l) (by rw [tbl_len]; omega) (by omega) (by omega) fun k hk => by rw [tbl_getD (by omega)]; exact if_pos hk
  generalize tbl (16 * ((N + 15) / 16)) (f0 (fewV l) N) = X at *
  generalize tbl (16 * ((N + 15) / 16)) _ = Y at *
  generalize fewV l = L at *
  simp -implicitDefEqProofs only [g7, g7_2, asI_i, asN_n, asL_l, asB_b, asE_nil, Bool.cond_decide, e1, altK_1, fewG_z, altK_2, lap_new', TT_len, Nat.zero_add, Nat.le_refl, if_true, TT_drop, List.append_nil, TT_32, altK_0, e3, altK_3, e4, e5, cond_true, awakeL_ok]
theorem bk_0g (m : Nat) (l G : List Int) (hG : G.length = 4 * m) (h1 : 1 ≤ m) (hm : m < 9223372036854775808) : g7 (0, [.n 0, .n m, .l l, .l G]) = some (0, [.b true, .l l, .l G]) := by
  have e2 := fewG_ok m G hG h1 hm
  generalize min 20 m = q at *
  generalize gL G q = H at *
  simp -implicitDefEqProofs only [g7, g7_0, asI_i, asN_n, asL_l, asB_b, asE_nil, Bool.cond_decide, few_0, altK_0, e2, altK_3]
  show (_ : Option (Nat × List Leaf)) = _
  kernel_rfl
theorem bk_00 (l G : List Int) : g7 (0, [.n 0, .n 0, .l l, .l G]) = some (0, [.b true, .l l, .l G]) := by
  simp -implicitDefEqProofs only [g7, g7_0, asI_i, asN_n, asL_l, asB_b, asE_nil, Bool.cond_decide, few_0, altK_0, fewG_0]
  kernel_rfl
theorem bk_0n (l : List Int) : g7 (1, [.n 0, .l l]) = some (1, [.b true, .l l]) := by
  simp -implicitDefEqProofs only [g7, g7_1, asI_i, asN_n, asL_l, asB_b, asE_nil, Bool.cond_decide, few_0, altK_0]
  kernel_rfl
theorem bk_0d (l : List Int) : g7 (2, [.n 0, .n 0, .l l]) = some (2, [.b true, .l l]) := by
  simp -implicitDefEqProofs only [g7, g7_2, asI_i, asN_n, asL_l, asB_b, asE_nil, Bool.cond_decide, few_0, altK_0]
  kernel_rfl
theorem bk_ng (m : Nat) (G : List Int) (hG : G.length = 4 * m) (h1 : 1 ≤ m) (hm : m < 9223372036854775808) : g7 (3, [.n m, .l G]) = some (1, [.b true, .l G]) := by
  have e2 := fewG_ok m G hG h1 hm
  generalize min 20 m = q at *
  generalize gL G q = H at *
  simp -implicitDefEqProofs only [g7, g7_3, asI_i, asN_n, asL_l, asB_b, asE_nil, Bool.cond_decide, few_nil, altK_2, e2, altK_3]
  show (_ : Option (Nat × List Leaf)) = _
  kernel_rfl
theorem bk_n0 (G : List Int) : g7 (3, [.n 0, .l G]) = some (1, [.b true, .l G]) := by
  simp -implicitDefEqProofs only [g7, g7_3, asI_i, asN_n, asL_l, asB_b, asE_nil, Bool.cond_decide, few_nil, altK_2, fewG_0, altK_0]
  kernel_rfl
theorem bk_dg (m : Nat) (G : List Int) (hG : G.length = 4 * m) (h1 : 1 ≤ m) (hm : m < 9223372036854775808) : g7 (6, [.n m, .l G]) = some (5, [.b true, .l G]) := by
  have e2 := fewG_ok m G hG h1 hm
  generalize min 20 m = q at *
  generalize gL G q = H at *
  simp -implicitDefEqProofs only [g7, g7_6, asI_i, asN_n, asL_l, asB_b, asE_nil, Bool.cond_decide, few_z, altK_3, e2, altK_3]
  show (_ : Option (Nat × List Leaf)) = _
  kernel_rfl
theorem bk_d0 (G : List Int) : g7 (6, [.n 0, .l G]) = some (5, [.b true, .l G]) := by
  simp -implicitDefEqProofs only [g7, g7_6, asI_i, asN_n, asL_l, asB_b, asE_nil, Bool.cond_decide, few_z, altK_3, fewG_0, altK_0]
  kernel_rfl
theorem bk_nn  : g7 (4, []) = some (3, [.b true]) := by
  kernel_rfl
theorem bk_nd  : g7 (5, [.n 0]) = some (4, [.b true]) := by
  kernel_rfl
theorem bk_dn  : g7 (7, []) = some (4, [.b true]) := by
  kernel_rfl
theorem bk_dd  : g7 (8, [.n 0]) = some (6, [.b true]) := by
  kernel_rfl
theorem bk_ev_ll (l : List Int) (n : Nat) (hn : l.length = n * 1) (hm : n ≤ maxLen) (g : List Int) (m : Nat) (hg : g.length = m * 4) (hm' : m ≤ maxLen) : ∃ d, evF tab d 7 [.slice 0 0 n 1, .slice 1 0 m 4] [⟨false, .ints .i64 l⟩, ⟨false, .ints .i64 g⟩] = some (.bool true, [⟨false, .ints .i64 l⟩, ⟨false, .ints .i64 g⟩], []) := by
  have h : g7 (0, [.n n, .n m, .l l, .l g]) = some (0, [.b true, .l l, .l g]) := by
    unfold maxLen at *
    by_cases c : n = 0
    · subst c
      by_cases c' : m = 0
      · subst c'
        exact bk_00 l g
      · exact bk_0g m l g (by omega) (by omega) (by omega)
    · by_cases c' : m = 0
      · subst c'
        exact bk_l0 n l g (by omega) (by omega) (by omega)
      · exact bk_lg n m l g (by omega) (by omega) (by omega) (by omega) (by omega) (by omega)
  exact ⟨_, (ok7 0).ret (i := 0) (ls := [.n n, .n m, .l l, .l g]) (j := 0) (r := [.b true, .l l, .l g]) h rfl rfl rfl rfl⟩
theorem bk_ev_ln (l : List Int) (n : Nat) (hn : l.length = n * 1) (hm : n ≤ maxLen) : ∃ d, evF tab d 7 [.slice 0 0 n 1, .nils] [⟨false, .ints .i64 l⟩] = some (.bool true, [⟨false, .ints .i64 l⟩], []) := by
  have h : g7 (1, [.n n, .l l]) = some (1, [.b true, .l l]) := by
    unfold maxLen at *
    by_cases c : n = 0
    · subst c
      exact bk_0n l
    · exact bk_ln n l (by omega) (by omega) (by omega)
  exact ⟨_, (ok7 0).ret (i := 1) (ls := [.n n, .l l]) (j := 1) (r := [.b true, .l l]) h rfl rfl rfl rfl⟩
theorem bk_ev_ld (l : List Int) (n : Nat) (hn : l.length = n * 1) (hm : n ≤ maxLen) : ∃ d, evF tab d 7 [.slice 0 0 n 1, .slice 1 0 0 4] [⟨false, .ints .i64 l⟩, ⟨true, .unk⟩] = some (.bool true, [⟨false, .ints .i64 l⟩, ⟨true, .unk⟩], []) := by
  have h : g7 (2, [.n n, .n 0, .l l]) = some (2, [.b true, .l l]) := by
    unfold maxLen at *
    by_cases c : n = 0
    · subst c
      exact bk_0d l
    · exact bk_ld n l (by omega) (by omega) (by omega)
  exact ⟨_, (ok7 0).ret (i := 2) (ls := [.n n, .n 0, .l l]) (j := 2) (r := [.b true, .l l]) h rfl rfl rfl rfl⟩
theorem bk_ev_nl (g : List Int) (m : Nat) (hg : g.length = m * 4) (hm' : m ≤ maxLen) : ∃ d, evF tab d 7 [.nils, .slice 0 0 m 4] [⟨false, .ints .i64 g⟩] = some (.bool true, [⟨false, .ints .i64 g⟩], []) := by
  have h : g7 (3, [.n m, .l g]) = some (1, [.b true, .l g]) := by
    unfold maxLen at *
    by_cases c : m = 0
    · subst c
      exact bk_n0 g
    · exact bk_ng m g (by omega) (by omega) (by omega)
  exact ⟨_, (ok7 0).ret (i := 3) (ls := [.n m, .l g]) (j := 1) (r := [.b true, .l g]) h rfl rfl rfl rfl⟩
theorem bk_ev_nn  : ∃ d, evF tab d 7 [.nils, .nils] [] = some (.bool true, [], []) := by
  have h : g7 (4, []) = some (3, [.b true]) := by
    exact bk_nn
  exact ⟨_, (ok7 0).ret (i := 4) (ls := []) (j := 3) (r := [.b true]) h rfl rfl rfl rfl⟩
theorem bk_ev_nd  : ∃ d, evF tab d 7 [.nils, .slice 0 0 0 4] [⟨true, .unk⟩] = some (.bool true, [⟨true, .unk⟩], []) := by
  have h : g7 (5, [.n 0]) = some (4, [.b true]) := by
    exact bk_nd
  exact ⟨_, (ok7 0).ret (i := 5) (ls := [.n 0]) (j := 4) (r := [.b true]) h rfl rfl rfl rfl⟩
theorem bk_ev_dl (g : List Int) (m : Nat) (hg : g.length = m * 4) (hm' : m ≤ maxLen) : ∃ d, evF tab d 7 [.slice 0 0 0 1, .slice 1 0 m 4] [⟨true, .unk⟩, ⟨false, .ints .i64 g⟩] = some (.bool true, [⟨true, .unk⟩, ⟨false, .ints .i64 g⟩], []) := by
  have h : g7 (6, [.n m, .l g]) = some (5, [.b true, .l g]) := by
    unfold maxLen at *
    by_cases c : m = 0
    · subst c
      exact bk_d0 g
    · exact bk_dg m g (by omega) (by omega) (by omega)
  exact ⟨_, (ok7 0).ret (i := 6) (ls := [.n m, .l g]) (j := 5) (r := [.b true, .l g]) h rfl rfl rfl rfl⟩
theorem bk_ev_dn  : ∃ d, evF tab d 7 [.slice 0 0 0 1, .nils] [⟨true, .unk⟩] = some (.bool true, [⟨true, .unk⟩], []) := by
  have h : g7 (7, []) = some (4, [.b true]) := by
    exact bk_dn
  exact ⟨_, (ok7 0).ret (i := 7) (ls := []) (j := 4) (r := [.b true]) h rfl rfl rfl rfl⟩
theorem bk_ev_dd  : ∃ d, evF tab d 7 [.slice 0 0 0 1, .slice 1 0 0 4] [⟨true, .unk⟩, ⟨true, .unk⟩] = some (.bool true, [⟨true, .unk⟩, ⟨true, .unk⟩], []) := by
  have h : g7 (8, [.n 0]) = some (6, [.b true]) := by
    exact bk_dd
  exact ⟨_, (ok7 0).ret (i := 8) (ls := [.n 0]) (j := 6) (r := [.b true]) h rfl rfl rfl rfl⟩
end Go.Proofs.Ytmmfgbifbbiihaa