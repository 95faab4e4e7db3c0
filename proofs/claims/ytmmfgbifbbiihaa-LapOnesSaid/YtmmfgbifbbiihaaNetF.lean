/-
  The walks of net's Forward and Inverse. Conditions: none.
-/
import Derived.Test.YtmmfgbifbbiihaaNetE
import Derived.Test.YtmmfgbifbbiihaaNetQ
namespace Go.Proofs.Ytmmfgbifbbiihaa
open Go Go.Sx Go.RowKit
set_option maxRecDepth 100000
set_option linter.unusedVariables false

theorem netAt_len {call : CallF} {f r i : Nat} {ts b b' : List Int} (h : netAt call f ts r b i = some b') : b'.length = b.length := by
  unfold netAt at h
  split at h
  · cases h; simp
  · cases h
theorem netRound_len {call : CallF} {f r : Nat} {ts : List Int} : ∀ (l : List Nat) {b b' : List Int}, netRound call f ts r l b = some b' → b'.length = b.length
  | [], b, b', h => by cases h; rfl
  | i :: l, b, b', h => by
    obtain ⟨b1, h1, h2⟩ := Option.bind_eq_some_iff.1 h
    exact (netRound_len l h2).trans (netAt_len h1)
theorem netRound_append {call : CallF} {f r : Nat} {ts : List Int} : ∀ (l l' : List Nat) (b : List Int), netRound call f ts r (l ++ l') b = (netRound call f ts r l b).bind (netRound call f ts r l')
  | [], l', b => rfl
  | i :: l, l', b => by
    simp only [List.cons_append, netRound]
    cases netAt call f ts r b i with
    | none => rfl
    | some b1 => exact netRound_append l l' b1
theorem preP_mem {r k x : Nat} {pre post : List Nat} (h : preP r k = pre ++ x :: post) : x < k ∧ isP r x = true := by
  have hm : x ∈ preP r k := by rw [h]; simp
  unfold preP at hm
  rw [List.mem_filter, List.mem_range] at hm
  exact hm
/-- What stands before one place's turn, and after it. -/
theorem netRound_at {call : CallF} {f r : Nat} {ts b bx : List Int} {pre post : List Nat} {x : Nat} (h : netRound call f ts r (pre ++ x :: post) b = some bx) :
    ∃ b1 b2, netRound call f ts r pre b = some b1 ∧ netAt call f ts r b1 x = some b2 ∧ netRound call f ts r (pre ++ [x]) b = some b2 ∧ b1.length = b.length := by
  rw [netRound_append] at h
  obtain ⟨b1, h1, h2⟩ := Option.bind_eq_some_iff.1 h
  obtain ⟨b2, h3, _⟩ := Option.bind_eq_some_iff.1 h2
  refine ⟨b1, b2, h1, h3, ?_, netRound_len _ h1⟩
  rw [netRound_append, h1]
  simp only [Option.bind_some, netRound, h3]
theorem netAt_some {call : CallF} {f r i : Nat} {ts b b' : List Int} (h : netAt call f ts r b i = some b') : ∃ x y, call f [.int .i64 (b.getD i 0), .int .i64 (b.getD (i + 2 ^ r) 0), .ints .i64 [ts.getD (2 * tix r i) 0, ts.getD (2 * tix r i + 1) 0]] [] = some (.tup [.int .i64 x, .int .i64 y], [], []) ∧ b' = (b.set i x).set (i + 2 ^ r) y := by
  unfold netAt at h
  split at h
  · rename_i x y hc
    cases h
    exact ⟨x, y, hc, rfl⟩
  · cases h
theorem rounds_drop (rs : List Nat) (j : Nat) (hj : j < rs.length) : rs.drop j = rs.getD j 0 :: rs.drop (j + 1) := by
  rw [List.drop_eq_getElem_cons hj]
  simp [List.getD_eq_getElem?_getD, List.getElem?_eq_getElem hj]
def rsF : List Nat := [0, 1, 2, 3]
def rsI : List Nat := [3, 2, 1, 0]
theorem rsF_at (j : Nat) (h : j < 4) : rsF.getD j 0 = rdF j := by
  match j, h with
  | 0, _ => rfl
  | 1, _ => rfl
  | 2, _ => rfl
  | 3, _ => rfl
theorem rsI_at (j : Nat) (h : j < 4) : rsI.getD j 0 = rdI j := by
  match j, h with
  | 0, _ => rfl
  | 1, _ => rfl
  | 2, _ => rfl
  | 3, _ => rfl
theorem rdF_lt (j : Nat) (h : j < 4) : rdF j < 4 := h
theorem rdI_lt (j : Nat) (h : j < 4) : rdI j < 4 := by unfold rdI; omega
theorem HR_nothing (w : World) : HR w [] (fun _ => none) [] w :=
  ⟨fun _ _ => rfl, fun i row h => (by cases h), fun i L h => (by cases h), fun i row L h => (by cases h), fun i j ri Li Lj h => (by cases h), Fr.refl _ _⟩


theorem roundF {w0 : World} {call : CallF} (hcall : CallOk Try.prog call) (hcan : ∀ f args h r, call f args h = some r → callable Try.prog f = true) {ds : List Deferred} {ρ : RM} {a : Act} {W : World} {K : List (Nat × Obj)} {Q : Exit → Act → World → Prop} (ts b bx : List Int) (hts : ts.length = 16) (hb : b.length = 16) (r : Nat) (hr : r < 4)
    (hs : SR ds 38 0 (fun _ => none) w0 [] ρ (sRF ts b r) a W) (hk : Kept K W) (hround : netRound call 28 ts r (preP r 16) b = some bx)
    (hdone : ∀ (D : Nat) (W1 : World), w0.heap.size ≤ D → (∀ p ∈ K, p.1 ≠ D) → HR w0 [] ρ (NF.hp ts bx r) W1 → Kept ((D, .deferred (some [])) :: K) W1 → Q .normal { a with defers := { target := .collected D, args := #[] } :: a.defers } W1) :
    (Code.rangeFunc (.tmp 14) #[15, 16] (.seq (.region 5 o17_5 false) (.region 6 o17_6 false)) (.block 3 (.seq (.region 7 o17_7 false) (.region 8 o17_8 true)))).wpIn Fence.wide 0 Try.prog Q a W := by
  have hfn : VR ρ (.fn 40 [] [.ptr 4 0, .ptr 5 0]) (a.tmps.getD 14 undef) := hs.env 14
  obtain ⟨x0, y0, hv, hx0, hy0⟩ := hfn
  rw [show fnOf 40 = .func 40 from rfl, show x0 = [] from hx0] at hv
  have h0 : HR w0 [] ρ (NF.hp ts b r) W := hs.heap
  have hout : ∀ i, 6 ≤ i → ρ i = none := fun i hi => h0.out i (List.getElem?_eq_none hi)
  have hpos : ∀ i, i < 6 → ρ i ≠ none := fun i hi => by
    obtain ⟨row, kd, l, h1, h2⟩ := NF.hp_ints ts b r i hi
    obtain ⟨L, hL, _⟩ := h0.live h1 (by rw [h2]; rfl)
    rw [hL]; simp
  obtain ⟨bs, hbs⟩ : ∃ bs : List Nat → List Int, bs = fun pre => (netRound call 28 ts r pre b).getD [] := ⟨_, rfl⟩
  have hbs0 : bs [] = b := by rw [hbs]; rfl
  have hbsx : bs (preP r 16) = bx := by rw [hbs]; simp only [hround, Option.getD_some]
  have hat : ∀ (pre : List Nat) (x : Nat) (post : List Nat), preP r 16 = pre ++ x :: post → (bs pre).length = 16 ∧ netAt call 28 ts r (bs pre) x = some (bs (pre ++ [x])) := by
    intro pre x post hxs
    rw [hxs] at hround
    obtain ⟨b1, b2, h1, h2, h3, h4⟩ := netRound_at hround
    rw [hbs]
    simp only [h1, h3, Option.getD_some]
    exact ⟨h4.trans hb, h2⟩
  refine range_ok (n := 38) (m := 6) (S := []) (ρ := ρ) (w0 := w0) (gf := 40) (lb := y0.toArray) (K := K) hv (enters_it Try.func40 (by kernel_rfl) body40) (encP ts r) (fun x => rfl) (preP r 16) (fun pre => NF.hp ts (bs pre) r) (fun pre => NF.hp_own _ _ _) (by rw [hbs0]; exact h0) hk (fun pre x => sGF ts (bs pre) r x) ?_ ?_ ?_ ?_ ?_
  · intro l K' pre x post W1 hxs hH hK'
    have hst : SR [] 38 6 ρ w0 [] ρ (s1F ts (bs pre) r x) { tmps := ((#[15, 16] : Array Tmp).zip (encP ts r x)).foldl (fun t (p, v) => t.setIfInBounds p v) a.tmps, defers := [] } W1 := by
      have hb0 : SR [] 38 6 ρ w0 [] ρ { sRF ts (bs pre) r with m := 6 } { tmps := a.tmps, defers := [] } W1 := ⟨fun i hi _ => .inl rfl, hpos, Nat.le_refl 6, hs.env, hH, hs.size, rfl, rfl⟩
      have hb1 := hb0.set (d := 15) (by omega) (e := .int .i64 x) (v := .int .i64 x) rfl
      have hb2 := hb1.set (d := 16) (by omega) (e := trn ts r x) (v := .agg #[.int .i64 (ts.getD (2 * tix r x) 0), .int .i64 (ts.getD (2 * tix r x + 1) 0)]) rfl
      have ht : ((#[15, 16] : Array Tmp).zip (encP ts r x)).foldl (fun t (p, v) => t.setIfInBounds p v) a.tmps = (a.tmps.setIfInBounds 15 (.int .i64 x)).setIfInBounds 16 (.agg #[.int .i64 (ts.getD (2 * tix r x) 0), .int .i64 (ts.getD (2 * tix r x + 1) 0)]) := by
        simp [encP, Array.zip]
      rw [ht]
      exact hb2
    obtain ⟨st5, h5, h6⟩ := Option.bind_eq_some_iff.1 (eGF ts (bs pre) r x)
    refine wpIn_mono (Q := fun e a1 W2 => e = .normal ∧ (∃ ρ1, SR [] 38 6 ρ w0 [] ρ1 (sGF ts (bs pre) r x) a1 W2) ∧ Kept K' W2) ?_ (fun e a1 w ⟨he, h1, h2⟩ => by subst he; exact ⟨h1, h2⟩)
    exact wpIn_seq (region_kept (Wide.inRound l) cq17_5 cB_ok cB_can h5 hst hK' fun a1 w1 ρ1 hs1 hk1 => region_kept (Wide.inRound l) cq17_6 cB_ok cB_can h6 hs1 hk1 fun a2 w2 ρ2 hs2 hk2 => ⟨rfl, ⟨ρ2, hs2⟩, hk2⟩)
  · intro pre x row hrow
    simp only [sGF, sGF, NF.hp, List.cons_append, List.nil_append, List.mem_cons, List.not_mem_nil, or_false] at hrow
    rcases hrow with rfl | rfl | rfl | rfl | rfl | rfl | rfl <;> rfl
  · intro l K' pre x post W1 a1 ρ1 hxs hs1 hk1
    obtain ⟨hx16, hxp⟩ := preP_mem hxs
    obtain ⟨hl16, hn⟩ := hat pre x post hxs
    obtain ⟨vx, vy, hc, he⟩ := netAt_some hn
    rw [he]
    refine wpIn_block (wpIn_seq (region_kept (Wide.inRound l) cq17_7 cB_ok cB_can (e7F ts (bs pre) r x hr hx16 hxp) hs1 hk1 fun a2 w2 ρ2 hs2 hk2 => ?_))
    refine region_kept (Wide.inRound l) cq17_8 hcall hcan (reg_call (c := 9) (d := 31) (f := 28) rfl rfl rfl (e8F call ts (bs pre) hl16 r x hr hx16 hxp) (A := [.int .i64 ((bs pre).getD x 0), .int .i64 ((bs pre).getD (x + 2 ^ r) 0), trn ts r x]) rfl rfl hc (e9F call ts (bs pre) hl16 vx vy r x hr hx16 hxp)) hs2 hk2 fun a3 w3 ρ3 hs3 hk3 => ?_
    refine ⟨rfl, ?_, hk3⟩
    exact HR_take hs3 rfl (fun i hi => by
      obtain ⟨row, kd, l, h1, h2⟩ := NF.hp_ints ts (((bs pre).set x vx).set (x + 2 ^ r) vy) r i hi
      exact ⟨row, kd, l, by
        show (NF.hp ts (((bs pre).set x vx).set (x + 2 ^ r) vy) r ++ [_])[i]? = some row
        rw [List.getElem?_append_left (show i < 6 from hi)]; exact h1, h2⟩) hout
  · intro l K' W1 hH hK' hy
    exact NF.pairs_in ts hts r hr bs l K' W1 y0 hy0 hH hK' hy
  · intro D W1 hD hne hH hK'
    simp only [hbsx] at hH
    exact hdone D W1 hD hne hH hK'


theorem roundI {w0 : World} {call : CallF} (hcall : CallOk Try.prog call) (hcan : ∀ f args h r, call f args h = some r → callable Try.prog f = true) {ds : List Deferred} {ρ : RM} {a : Act} {W : World} {K : List (Nat × Obj)} {Q : Exit → Act → World → Prop} (ts b bx : List Int) (hts : ts.length = 16) (hb : b.length = 16) (r : Nat) (hr : r < 4)
    (hs : SR ds 39 0 (fun _ => none) w0 [] ρ (sRI ts b r) a W) (hk : Kept K W) (hround : netRound call 36 ts r (preP r 16) b = some bx)
    (hdone : ∀ (D : Nat) (W1 : World), w0.heap.size ≤ D → (∀ p ∈ K, p.1 ≠ D) → HR w0 [] ρ (NF.hp ts bx r) W1 → Kept ((D, .deferred (some [])) :: K) W1 → Q .normal { a with defers := { target := .collected D, args := #[] } :: a.defers } W1) :
    (Code.rangeFunc (.tmp 15) #[16, 17] (.seq (.region 5 o25_5 false) (.region 6 o25_6 false)) (.block 3 (.seq (.region 7 o25_7 false) (.region 8 o25_8 true)))).wpIn Fence.wide 0 Try.prog Q a W := by
  have hfn : VR ρ (.fn 40 [] [.ptr 4 0, .ptr 5 0]) (a.tmps.getD 15 undef) := hs.env 15
  obtain ⟨x0, y0, hv, hx0, hy0⟩ := hfn
  rw [show fnOf 40 = .func 40 from rfl, show x0 = [] from hx0] at hv
  have h0 : HR w0 [] ρ (NF.hp ts b r) W := hs.heap
  have hout : ∀ i, 6 ≤ i → ρ i = none := fun i hi => h0.out i (List.getElem?_eq_none hi)
  have hpos : ∀ i, i < 6 → ρ i ≠ none := fun i hi => by
    obtain ⟨row, kd, l, h1, h2⟩ := NF.hp_ints ts b r i hi
    obtain ⟨L, hL, _⟩ := h0.live h1 (by rw [h2]; rfl)
    rw [hL]; simp
  obtain ⟨bs, hbs⟩ : ∃ bs : List Nat → List Int, bs = fun pre => (netRound call 36 ts r pre b).getD [] := ⟨_, rfl⟩
  have hbs0 : bs [] = b := by rw [hbs]; rfl
  have hbsx : bs (preP r 16) = bx := by rw [hbs]; simp only [hround, Option.getD_some]
  have hat : ∀ (pre : List Nat) (x : Nat) (post : List Nat), preP r 16 = pre ++ x :: post → (bs pre).length = 16 ∧ netAt call 36 ts r (bs pre) x = some (bs (pre ++ [x])) := by
    intro pre x post hxs
    rw [hxs] at hround
    obtain ⟨b1, b2, h1, h2, h3, h4⟩ := netRound_at hround
    rw [hbs]
    simp only [h1, h3, Option.getD_some]
    exact ⟨h4.trans hb, h2⟩
  refine range_ok (n := 39) (m := 6) (S := []) (ρ := ρ) (w0 := w0) (gf := 40) (lb := y0.toArray) (K := K) hv (enters_it Try.func40 (by kernel_rfl) body40) (encP ts r) (fun x => rfl) (preP r 16) (fun pre => NF.hp ts (bs pre) r) (fun pre => NF.hp_own _ _ _) (by rw [hbs0]; exact h0) hk (fun pre x => sGI ts (bs pre) r x) ?_ ?_ ?_ ?_ ?_
  · intro l K' pre x post W1 hxs hH hK'
    have hst : SR [] 39 6 ρ w0 [] ρ (s1I ts (bs pre) r x) { tmps := ((#[16, 17] : Array Tmp).zip (encP ts r x)).foldl (fun t (p, v) => t.setIfInBounds p v) a.tmps, defers := [] } W1 := by
      have hb0 : SR [] 39 6 ρ w0 [] ρ { sRI ts (bs pre) r with m := 6 } { tmps := a.tmps, defers := [] } W1 := ⟨fun i hi _ => .inl rfl, hpos, Nat.le_refl 6, hs.env, hH, hs.size, rfl, rfl⟩
      have hb1 := hb0.set (d := 16) (by omega) (e := .int .i64 x) (v := .int .i64 x) rfl
      have hb2 := hb1.set (d := 17) (by omega) (e := trn ts r x) (v := .agg #[.int .i64 (ts.getD (2 * tix r x) 0), .int .i64 (ts.getD (2 * tix r x + 1) 0)]) rfl
      have ht : ((#[16, 17] : Array Tmp).zip (encP ts r x)).foldl (fun t (p, v) => t.setIfInBounds p v) a.tmps = (a.tmps.setIfInBounds 16 (.int .i64 x)).setIfInBounds 17 (.agg #[.int .i64 (ts.getD (2 * tix r x) 0), .int .i64 (ts.getD (2 * tix r x + 1) 0)]) := by
        simp [encP, Array.zip]
      rw [ht]
      exact hb2
    obtain ⟨st5, h5, h6⟩ := Option.bind_eq_some_iff.1 (eGI ts (bs pre) r x)
    refine wpIn_mono (Q := fun e a1 W2 => e = .normal ∧ (∃ ρ1, SR [] 39 6 ρ w0 [] ρ1 (sGI ts (bs pre) r x) a1 W2) ∧ Kept K' W2) ?_ (fun e a1 w ⟨he, h1, h2⟩ => by subst he; exact ⟨h1, h2⟩)
    exact wpIn_seq (region_kept (Wide.inRound l) cq25_5 cB_ok cB_can h5 hst hK' fun a1 w1 ρ1 hs1 hk1 => region_kept (Wide.inRound l) cq25_6 cB_ok cB_can h6 hs1 hk1 fun a2 w2 ρ2 hs2 hk2 => ⟨rfl, ⟨ρ2, hs2⟩, hk2⟩)
  · intro pre x row hrow
    simp only [sGI, sGI, NF.hp, List.cons_append, List.nil_append, List.mem_cons, List.not_mem_nil, or_false] at hrow
    rcases hrow with rfl | rfl | rfl | rfl | rfl | rfl | rfl <;> rfl
  · intro l K' pre x post W1 a1 ρ1 hxs hs1 hk1
    obtain ⟨hx16, hxp⟩ := preP_mem hxs
    obtain ⟨hl16, hn⟩ := hat pre x post hxs
    obtain ⟨vx, vy, hc, he⟩ := netAt_some hn
    rw [he]
    refine wpIn_block (wpIn_seq (region_kept (Wide.inRound l) cq25_7 cB_ok cB_can (e7I ts (bs pre) r x hr hx16 hxp) hs1 hk1 fun a2 w2 ρ2 hs2 hk2 => ?_))
    refine region_kept (Wide.inRound l) cq25_8 hcall hcan (reg_call (c := 9) (d := 32) (f := 36) rfl rfl rfl (e8I call ts (bs pre) hl16 r x hr hx16 hxp) (A := [.int .i64 ((bs pre).getD x 0), .int .i64 ((bs pre).getD (x + 2 ^ r) 0), trn ts r x]) rfl rfl hc (e9I call ts (bs pre) hl16 vx vy r x hr hx16 hxp)) hs2 hk2 fun a3 w3 ρ3 hs3 hk3 => ?_
    refine ⟨rfl, ?_, hk3⟩
    exact HR_take hs3 rfl (fun i hi => by
      obtain ⟨row, kd, l, h1, h2⟩ := NF.hp_ints ts (((bs pre).set x vx).set (x + 2 ^ r) vy) r i hi
      exact ⟨row, kd, l, by
        show (NF.hp ts (((bs pre).set x vx).set (x + 2 ^ r) vy) r ++ [_])[i]? = some row
        rw [List.getElem?_append_left (show i < 6 from hi)]; exact h1, h2⟩) hout
  · intro l K' W1 hH hK' hy
    exact NF.pairs_in ts hts r hr bs l K' W1 y0 hy0 hH hK' hy
  · intro D W1 hD hne hH hK'
    simp only [hbsx] at hH
    exact hdone D W1 hD hne hH hK'


theorem cresF : cRes Try.prog Try.f17.results.toList = some [.cell 4 (some 16)] := by kernel_rfl
theorem eZF' (ts b : List Int) (hb : b.length = 16) : ((runReg cB q17_10 (sHdF ts b 4 (.bool false))).bind fun st => if st.heap.all (·.own) then resAll st [.cell 4 (some 16)] else none) = some [.ints .i64 b] := by
  obtain ⟨b0, b1, b2, b3, b4, b5, b6, b7, b8, b9, b10, b11, b12, b13, b14, b15, rfl⟩ := len16 hb
  exact eZF b0 b1 b2 b3 b4 b5 b6 b7 b8 b9 b10 b11 b12 b13 b14 b15 ts
theorem eAF' (ts b : List Int) (hts : ts.length = 16) (hb : b.length = 16) : ((runReg cB q17_0 (s0F ts b)).bind fun st => runReg cB q17_1 st).map (fun st => { st with env := killE [0, 1] st.env }) = some (sHdF ts b 0 .unk) := by
  obtain ⟨b0, b1, b2, b3, b4, b5, b6, b7, b8, b9, b10, b11, b12, b13, b14, b15, rfl⟩ := len16 hb
  obtain ⟨t0, t1, t2, t3, t4, t5, t6, t7, t8, t9, t10, t11, t12, t13, t14, t15, rfl⟩ := len16 hts
  exact eAF t0 t1 t2 t3 t4 t5 t6 t7 t8 t9 t10 t11 t12 t13 t14 t15 b0 b1 b2 b3 b4 b5 b6 b7 b8 b9 b10 b11 b12 b13 b14 b15
theorem extF : ExtOk Try.prog 17 (netG 28 rsF) := by
  intro call hcall hcan args res hg w vs hvs
  unfold netG at hg
  split at hg
  rotate_left
  · cases hg
  rename_i ts b
  split at hg
  rotate_left
  · cases hg
  rename_i hlen
  obtain ⟨hts, hb⟩ := hlen
  obtain ⟨bres, hall, rfl⟩ := Option.map_eq_some_iff.1 hg
  refine (callsIn_wide (n := 0)).1 (callsIn_of_wp_marks Try.func17 body17 trivial ?_ rfl)
  have hst : SR [] 38 0 (fun _ => none) w [] (fun _ => none) (s0F ts b) { tmps := vs.toArray ++ Array.replicate (38 - vs.toArray.size) undef, defers := [] } w :=
    SR_start (n := 38) (np := 2) (vars := vs17) (HR_nothing w) (fun i hi => absurd hi (Nat.not_lt_zero i)) hvs rfl (by omega)
  obtain ⟨st1, h1, h2⟩ := Option.map_eq_some_iff.1 (eAF' ts b hts hb)
  obtain ⟨st0, h0, h1⟩ := Option.bind_eq_some_iff.1 h1
  refine wpIn_seq (region_kept Wide.wide cq17_0 cB_ok cB_can h0 hst (Kept.nil w) fun a1 w1 ρ1 hs1 _ => ?_)
  refine wpIn_seq (wpIn_seq (region_kept Wide.wide cq17_1 cB_ok cB_can h1 hs1 (Kept.nil w1) fun a2 w2 ρ2 hs2 hk2 => ?_))
  have hs3 := hs2.kill [0, 1]
  rw [h2] at hs3
  refine wpIn_block (wpIn_loop_ix (fun j a W => ∃ (ρ : RM) (b' : List Int) (Ds : List Nat), SR (Ds.map fun D => { target := .collected D, args := #[] }) 38 0 (fun _ => none) w [] ρ (sHdF ts b' j .unk) a W ∧ Kept (Ds.map fun D => (D, .deferred (some []))) W ∧ Ds.Nodup ∧ (∀ D ∈ Ds, w.heap.size ≤ D) ∧ b'.length = 16 ∧ netAll call 28 ts (rsF.drop j) b' = some bres) 4
    ⟨ρ2, b, [], hs3, hk2, List.nodup_nil, (fun D h => by cases h), hb, hall⟩ ?_)
  rintro j a W hj ⟨ρ, b', Ds, hs, hk, hnd, hge, hb', hall'⟩
  by_cases hlt : j < 4
  · refine wpIn_seq (region_kept Wide.wide cq17_2 cB_ok cB_can (eBF ts b' j hlt) hs hk fun a1 w1 ρ1 hs1 hk1 => ?_)
    have hcd : a1.eval (.tmp 10) = .bool true := VR_bool (show VR ρ1 (.bool true) _ from hs1.env 10)
    refine wpIn_seq (wpIn_cond_true hcd (wpIn_skip ?_))
    obtain ⟨st3, h3, h4⟩ := Option.bind_eq_some_iff.1 (eCF ts b' hts j hlt)
    refine wpIn_seq (wpIn_block (wpIn_seq (region_kept Wide.wide cq17_3 cB_ok cB_can h3 hs1 hk1 fun a2 w2 ρ2 hs2 hk2 => ?_)))
    refine wpIn_seq (region_kept Wide.wide cq17_4 cB_ok cB_can h4 hs2 hk2 fun a3 w3 ρ3 hs3 hk3 => ?_)
    rw [rounds_drop rsF j hlt, rsF_at j hlt] at hall'
    obtain ⟨bx, hround, hall2⟩ := Option.bind_eq_some_iff.1 hall'
    refine wpIn_block (roundF hcall hcan ts b' bx hts hb' (rdF j) (rdF_lt j hlt) hs3 hk3 hround fun D W1 hD hne hH hkr => ?_)
    have hsr : SR ((D :: Ds).map fun D => { target := .collected D, args := #[] }) 38 0 (fun _ => none) w [] ρ3 (sRF ts bx (rdF j)) { a3 with defers := { target := .collected D, args := #[] } :: a3.defers } W1 :=
      ⟨hs3.keep, hs3.pos, Nat.zero_le _, hs3.env, hH, hs3.size, by simp [hs3.defers], rfl⟩
    obtain ⟨st5, h5, h6⟩ := Option.bind_eq_some_iff.1 (eHF ts bx j hlt)
    show Code.wpIn _ _ _ _ _ _ _
    refine region_kept Wide.wide cq17_9 cB_ok cB_can h5 hsr hkr fun a5 w5 ρ5 hs5 hk5 => ?_
    obtain ⟨ρ6, hs6, _⟩ := tidy_ok (hs5.kill [5, 6, 7, 8, 10, 14, 15, 16]) h6 (Nat.le_refl 0)
    refine ⟨hlt, ρ6, bx, D :: Ds, hs6, hk5, List.nodup_cons.2 ⟨fun hm => hne _ (List.mem_map.2 ⟨D, hm, rfl⟩) rfl, hnd⟩, fun D' h => ?_, (netRound_len _ hround).trans hb', hall2⟩
    rcases List.mem_cons.1 h with rfl | h
    · exact hD
    · exact hge _ h
  · have hj4 : j = 4 := by omega
    subst hj4
    have hbr : b' = bres := Option.some.inj hall'
    subst hbr
    refine wpIn_seq (region_kept Wide.wide cq17_2 cB_ok cB_can (eBF_4 ts b') hs hk fun a1 w1 ρ1 hs1 hk1 => ?_)
    have hcd : a1.eval (.tmp 10) = .bool false := VR_bool (show VR ρ1 (.bool false) _ from hs1.env 10)
    refine wpIn_seq (wpIn_cond_false hcd (wpIn_exit ?_))
    obtain ⟨st2, h10, h11⟩ := Option.bind_eq_some_iff.1 (eZF' ts b' hb')
    show Code.wpIn _ _ _ _ _ _ _
    refine wpIn_seq (region_kept Wide.wide cq17_10 cB_ok cB_can h10 hs1 hk1 fun a2 w2 ρ2 hs2 hk2 => wpIn_ret ?_)
    show LeavesInM _ _ _ _ _ _ a2.defers _ _
    rw [hs2.defers]
    split at h11
    rotate_left
    · cases h11
    rename_i hown
    have hown' : ∀ row ∈ st2.heap, row.own = true := fun row h => List.all_eq_true.1 hown row h
    refine leaves_marks Ds w2 hk2 hnd fun w' g1 g2 g3 g4 g5 => ?_
    have hH' := hs2.heap.marks hown' hk2 hge g1 g2 g3 g4 g5
    have hs4 : SR (Ds.map fun D => { target := .collected D, args := #[] }) 38 0 (fun _ => none) w [] ρ2 st2 a2 w' := ⟨hs2.keep, hs2.pos, hs2.long, hs2.env, hH', hs2.size, hs2.defers, hs2.ms⟩
    obtain ⟨v, hrun, hv⟩ := results_ok hs4 cresF h11
    exact ⟨v, hrun, v, rfl, hv, hH'.frame⟩


theorem cresI : cRes Try.prog Try.f25.results.toList = some [.cell 4 (some 16)] := by kernel_rfl
theorem eZI' (ts b : List Int) (hb : b.length = 16) : ((runReg cB q25_11 (sHdI ts b 4 (.bool false))).bind fun st => if st.heap.all (·.own) then resAll st [.cell 4 (some 16)] else none) = some [.ints .i64 b] := by
  obtain ⟨b0, b1, b2, b3, b4, b5, b6, b7, b8, b9, b10, b11, b12, b13, b14, b15, rfl⟩ := len16 hb
  exact eZI b0 b1 b2 b3 b4 b5 b6 b7 b8 b9 b10 b11 b12 b13 b14 b15 ts
theorem eAI' (ts b : List Int) (hts : ts.length = 16) (hb : b.length = 16) : ((runReg cB q25_0 (s0I ts b)).bind fun st => runReg cB q25_1 st).map (fun st => { st with env := killE [0, 1] st.env }) = some (sHdI ts b 0 .unk) := by
  obtain ⟨b0, b1, b2, b3, b4, b5, b6, b7, b8, b9, b10, b11, b12, b13, b14, b15, rfl⟩ := len16 hb
  obtain ⟨t0, t1, t2, t3, t4, t5, t6, t7, t8, t9, t10, t11, t12, t13, t14, t15, rfl⟩ := len16 hts
  exact eAI t0 t1 t2 t3 t4 t5 t6 t7 t8 t9 t10 t11 t12 t13 t14 t15 b0 b1 b2 b3 b4 b5 b6 b7 b8 b9 b10 b11 b12 b13 b14 b15
theorem extI : ExtOk Try.prog 25 (netG 36 rsI) := by
  intro call hcall hcan args res hg w vs hvs
  unfold netG at hg
  split at hg
  rotate_left
  · cases hg
  rename_i ts b
  split at hg
  rotate_left
  · cases hg
  rename_i hlen
  obtain ⟨hts, hb⟩ := hlen
  obtain ⟨bres, hall, rfl⟩ := Option.map_eq_some_iff.1 hg
  refine (callsIn_wide (n := 0)).1 (callsIn_of_wp_marks Try.func25 body25 trivial ?_ rfl)
  have hst : SR [] 39 0 (fun _ => none) w [] (fun _ => none) (s0I ts b) { tmps := vs.toArray ++ Array.replicate (39 - vs.toArray.size) undef, defers := [] } w :=
    SR_start (n := 39) (np := 2) (vars := vs25) (HR_nothing w) (fun i hi => absurd hi (Nat.not_lt_zero i)) hvs rfl (by omega)
  obtain ⟨st1, h1, h2⟩ := Option.map_eq_some_iff.1 (eAI' ts b hts hb)
  obtain ⟨st0, h0, h1⟩ := Option.bind_eq_some_iff.1 h1
  refine wpIn_seq (region_kept Wide.wide cq25_0 cB_ok cB_can h0 hst (Kept.nil w) fun a1 w1 ρ1 hs1 _ => ?_)
  refine wpIn_seq (wpIn_seq (region_kept Wide.wide cq25_1 cB_ok cB_can h1 hs1 (Kept.nil w1) fun a2 w2 ρ2 hs2 hk2 => ?_))
  have hs3 := hs2.kill [0, 1]
  rw [h2] at hs3
  refine wpIn_block (wpIn_loop_ix (fun j a W => ∃ (ρ : RM) (b' : List Int) (Ds : List Nat), SR (Ds.map fun D => { target := .collected D, args := #[] }) 39 0 (fun _ => none) w [] ρ (sHdI ts b' j .unk) a W ∧ Kept (Ds.map fun D => (D, .deferred (some []))) W ∧ Ds.Nodup ∧ (∀ D ∈ Ds, w.heap.size ≤ D) ∧ b'.length = 16 ∧ netAll call 36 ts (rsI.drop j) b' = some bres) 4
    ⟨ρ2, b, [], hs3, hk2, List.nodup_nil, (fun D h => by cases h), hb, hall⟩ ?_)
  rintro j a W hj ⟨ρ, b', Ds, hs, hk, hnd, hge, hb', hall'⟩
  by_cases hlt : j < 4
  · refine wpIn_seq (wpIn_seq (region_kept Wide.wide cq25_2 cB_ok cB_can (eBI ts b' j hlt) hs hk fun a1 w1 ρ1 hs1 hk1 => ?_))
    have hcd : a1.eval (.tmp 10) = .bool true := VR_bool (show VR ρ1 (.bool true) _ from hs1.env 10)
    refine wpIn_cond_true hcd (wpIn_skip ?_)
    obtain ⟨st3, h3, h4⟩ := Option.bind_eq_some_iff.1 (eCI ts b' hts j hlt)
    cases h4
    refine wpIn_seq (wpIn_block (wpIn_seq (region_kept Wide.wide cq25_4 cB_ok cB_can h3 hs1 hk1 fun a3 w3 ρ3 hs3 hk3 => ?_)))
    rw [rounds_drop rsI j hlt, rsI_at j hlt] at hall'
    obtain ⟨bx, hround, hall2⟩ := Option.bind_eq_some_iff.1 hall'
    refine wpIn_block (roundI hcall hcan ts b' bx hts hb' (rdI j) (rdI_lt j hlt) hs3 hk3 hround fun D W1 hD hne hH hkr => ?_)
    have hsr : SR ((D :: Ds).map fun D => { target := .collected D, args := #[] }) 39 0 (fun _ => none) w [] ρ3 (sRI ts bx (rdI j)) { a3 with defers := { target := .collected D, args := #[] } :: a3.defers } W1 :=
      ⟨hs3.keep, hs3.pos, Nat.zero_le _, hs3.env, hH, hs3.size, by simp [hs3.defers], rfl⟩
    obtain ⟨st5, h5, h6⟩ := Option.bind_eq_some_iff.1 (eHI ts bx j hlt)
    obtain ⟨st7, h7, h6⟩ := Option.bind_eq_some_iff.1 h6
    obtain ⟨st8, h8, h6⟩ := Option.bind_eq_some_iff.1 h6
    show Code.wpIn _ _ _ _ _ _ _
    refine wpIn_seq (wpIn_seq (region_kept Wide.wide cq25_9 cB_ok cB_can h5 hsr hkr fun a7 w7 ρ7 hs7 hk7 => ?_))
    refine region_kept Wide.wide cq25_10 cB_ok cB_can h7 hs7 hk7 fun a8 w8 ρ8 hs8 hk8 => ?_
    refine region_kept Wide.wide cq25_3 cB_ok cB_can h8 hs8 hk8 fun a5 w5 ρ5 hs5 hk5 => ?_
    obtain ⟨ρ6, hs6, _⟩ := tidy_ok (hs5.kill [6, 7, 8, 10, 15, 16, 17, 37]) h6 (Nat.le_refl 0)
    refine ⟨hlt, ρ6, bx, D :: Ds, hs6, hk5, List.nodup_cons.2 ⟨fun hm => hne _ (List.mem_map.2 ⟨D, hm, rfl⟩) rfl, hnd⟩, fun D' h => ?_, (netRound_len _ hround).trans hb', hall2⟩
    rcases List.mem_cons.1 h with rfl | h
    · exact hD
    · exact hge _ h
  · have hj4 : j = 4 := by omega
    subst hj4
    have hbr : b' = bres := Option.some.inj hall'
    subst hbr
    refine wpIn_seq (wpIn_seq (region_kept Wide.wide cq25_2 cB_ok cB_can (eBI_4 ts b') hs hk fun a1 w1 ρ1 hs1 hk1 => ?_))
    have hcd : a1.eval (.tmp 10) = .bool false := VR_bool (show VR ρ1 (.bool false) _ from hs1.env 10)
    refine wpIn_cond_false hcd (wpIn_exit ?_)
    obtain ⟨st2, h10, h11⟩ := Option.bind_eq_some_iff.1 (eZI' ts b' hb')
    show Code.wpIn _ _ _ _ _ _ _
    refine wpIn_seq (region_kept Wide.wide cq25_11 cB_ok cB_can h10 hs1 hk1 fun a2 w2 ρ2 hs2 hk2 => wpIn_ret ?_)
    show LeavesInM _ _ _ _ _ _ a2.defers _ _
    rw [hs2.defers]
    split at h11
    rotate_left
    · cases h11
    rename_i hown
    have hown' : ∀ row ∈ st2.heap, row.own = true := fun row h => List.all_eq_true.1 hown row h
    refine leaves_marks Ds w2 hk2 hnd fun w' g1 g2 g3 g4 g5 => ?_
    have hH' := hs2.heap.marks hown' hk2 hge g1 g2 g3 g4 g5
    have hs4 : SR (Ds.map fun D => { target := .collected D, args := #[] }) 39 0 (fun _ => none) w [] ρ2 st2 a2 w' := ⟨hs2.keep, hs2.pos, hs2.long, hs2.env, hH', hs2.size, hs2.defers, hs2.ms⟩
    obtain ⟨v, hrun, hv⟩ := results_ok hs4 cresI h11
    exact ⟨v, hrun, v, rfl, hv, hH'.frame⟩

end Go.Proofs.Ytmmfgbifbbiihaa