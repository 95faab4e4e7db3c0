/-
  The walk of net's pairs: each of its places is handed to the loop's round, in order. Conditions: none.
-/
import Derived.Test.YtmmfgbifbbiihaaNetP
import Derived.WalkKit
namespace Go.Proofs.Ytmmfgbifbbiihaa
open Go Go.Sx Go.RowKit
set_option maxRecDepth 100000
set_option linter.unusedVariables false

theorem op14 : ∃ o ats, o40_3[14]? = some o ∧ o.op = .call { callee := .value (.tmp 14), args := #[.tmp 15, .tmp 21], argTypes := ats } ∧ o.guard = some (5, true) ∧ o.dst = some 22 := ⟨_, _, rfl, rfl, rfl, rfl⟩
theorem op5 : (o40_3[5]?).bind (·.dst) = some 13 := rfl
theorem op_range : List.range o40_3.size = List.range 14 ++ [14, 15, 16] := rfl
theorem bool_at {ρ : RM} {a : Act} {t : Nat} {b : Bool} (h : VR ρ (.bool b) (a.tmps.getD t undef)) : a.tmps[t]? = some (.bool b) := by
  have hv := VR_bool h
  rw [Array.getD_eq_getD_getElem?] at hv
  cases hx : a.tmps[t]? with
  | none => rw [hx] at hv; simp [undef] at hv
  | some v => rw [hx] at hv; simp at hv; rw [hv]

namespace NF
theorem pairs_in {w0 : World} {S : List Nat} {ρ : RM} (ts : List Int) (hts : ts.length = 16) (r : Nat) (hr : r < 4) (bs : List Nat → List Int) (l : Nat) (K : List (Nat × Obj)) (W : World) (lb : List Value) (hlb : VRs ρ [.ptr 4 0, .ptr 5 0] lb)
    (h0 : HR w0 S ρ (hp ts (bs []) r) W) (hk : Kept K W)
    (hy : ∀ (pre : List Nat) (x : Nat) (post : List Nat) (W2 : World), preP r 16 = pre ++ x :: post → HR w0 S ρ (hp ts (bs pre) r) W2 → Kept K W2 → YieldAt Fence.wide 0 Try.prog l (encP ts r x) W2 fun e W3 => e = .returned (.bool true) ∧ HR w0 S ρ (hp ts (bs (pre ++ [x])) r) W3 ∧ Kept K W3) :
    CallsIn Fence.wide 0 Try.prog 40 (#[.func (.yield l) #[] #[]] ++ lb.toArray) W fun e W2 => (∃ v, e = .returned v) ∧ HR w0 S ρ (hp ts (bs (preP r 16)) r) W2 ∧ Kept K W2 := by
  have hout : ∀ i, 6 ≤ i → ρ i = none := fun i hi => h0.out i (List.getElem?_eq_none hi)
  have hpos : ∀ i, i < 6 → ρ i ≠ none := fun i hi => by
    obtain ⟨row, kd, l, h1, h2⟩ := hp_ints ts (bs []) r i hi
    obtain ⟨L, hL, _⟩ := h0.live h1 (by rw [h2]; rfl)
    rw [hL]; simp
  have hsame : ∀ {st : St} {a : Act} {w : World} {ρ' : RM} {b : List Int}, SR [] 26 6 ρ w0 S ρ' st a w → st.gone = [] → st.heap = hp ts b r → ρ' = ρ := fun hS hg hh => SR_same hS hg (by rw [hh]; rfl) (by rw [hh]; exact hp_ints ts _ r) hout
  refine callsIn_of_wp Try.func40 body40 trivial ?_ rfl
  have hargs : VRs ρ [.fn (yld + l) [] [], .ptr 4 0, .ptr 5 0] (.func (.yield l) #[] #[] :: lb) := ⟨_, _, rfl, ⟨[], [], by rw [fnOf_yield], rfl, rfl⟩, hlb⟩
  have hst := SR_start (n := 26) (np := 3) (vars := vs40) h0 hpos hargs rfl (by omega)
  have ha : (#[Value.func (.yield l) #[] #[]] ++ lb.toArray) = (Value.func (.yield l) #[] #[] :: lb).toArray := by simp
  rw [ha]
  refine wpIn_seq (region_kept Wide.wide cq40_0 cB_ok cB_can (e0 l ts (bs []) r) hst hk fun a1 W1 ρ1 hs1 hk1 => ?_)
  rw [hsame hs1 rfl rfl] at hs1
  refine wpIn_block (wpIn_loop_ix (fun k a w => SR [] 26 6 ρ w0 S ρ (sI l ts (bs (preP r k)) r k .unk .unk .unk) a w ∧ Kept K w) 16 ⟨hs1, hk1⟩ ?_)
  rintro k a w hk16 ⟨hs, hkk⟩
  refine wpIn_seq (region_kept Wide.wide cq40_1 cB_ok cB_can (e1 l ts _ r k) hs hkk fun a1 w1 ρ1 h1 k1 => ?_)
  rw [hsame h1 rfl rfl] at h1
  have hc : a1.eval (.tmp 6) = .bool (decide ((k : Int) < 16)) := VR_bool (show VR ρ (.bool (decide ((k : Int) < 16))) _ from h1.env 6)
  by_cases hlt : k < 16
  · rw [decide_eq_true (show (k : Int) < 16 by omega)] at hc h1
    refine wpIn_seq (wpIn_cond_true hc (wpIn_skip ?_))
    refine wpIn_seq (wpIn_block (wpIn_seq (region_kept Wide.wide cq40_2 cB_ok cB_can (e2 l ts _ r k) h1 k1 fun a2 w2 ρ2 h2 k2 => ?_)))
    rw [hsame h2 rfl rfl] at h2
    refine wpIn_seq (wpIn_mono (Q := fun e a3 w3 => e = .normal ∧ SR [] 26 6 ρ w0 S ρ (sI l ts (bs (preP r (k + 1))) r k (.int .i64 k) (.bool true) (.bool false)) a3 w3 ∧ Kept K w3) ?_ ?_)
    · cases hisp : isP r k with
      | false =>
        have hn : preP r (k + 1) = preP r k := by rw [preP_next, hisp]; rfl
        rw [hn]
        refine region_kept Wide.wide cq40_3 cB_ok cB_can (e3n l ts _ r k hr hlt hisp) h2 k2 fun a3 w3 ρ3 h3 k3 => ?_
        rw [hsame h3 rfl rfl] at h3
        exact ⟨rfl, h3, k3⟩
      | true =>
        have hn : preP r (k + 1) = preP r k ++ [k] := by rw [preP_next, hisp]; rfl
        rw [hn]
        obtain ⟨x, hx, hx1⟩ := Option.map_eq_some_iff.1 (e3y l ts (bs (preP r k)) hts r k hr hlt hisp)
        have hnl : ¬ LetsOut (fun e a3 w3 => e = Exit.normal ∧ SR [] 26 6 ρ w0 S ρ (sI l ts (bs (preP r k ++ [k])) r k (.int .i64 k) (.bool true) (.bool false)) a3 w3 ∧ Kept K w3) := fun ⟨_, _, h, _⟩ => by cases h
        refine wpIn_region ?_
        rw [op_range]
        refine ops_first_kept Wide.wide hnl cq40_3 cB_ok cB_can (recs := x.2) hx (h2.fresh _) k2 fun a3 w3 ρ3 h3 k3 => ?_
        rw [hx1] at h3
        rw [hsame h3 rfl rfl] at h3
        obtain ⟨o, ats, ho, hop, hog, hod⟩ := op14
        have hv14 : a3.eval (.tmp 14) = .func (.yield l) #[] #[] := by
          have h : VR ρ (.fn (yld + l) [] []) (a3.tmps.getD 14 undef) := h3.env 14
          obtain ⟨x, y, e, hx, hy⟩ := h
          rw [fnOf_yield, show x = [] from hx, show y = [] from hy] at e
          exact e
        have hv15 : a3.eval (.tmp 15) = .int .i64 k := show a3.tmps.getD 15 undef = _ from VR_int (show VR ρ (.int .i64 k) _ from h3.env 15)
        have hv21 : a3.eval (.tmp 21) = .agg #[.int .i64 (ts.getD (2 * tix r k) 0), .int .i64 (ts.getD (2 * tix r k + 1) 0)] := (show VR ρ (.ints .i64 [ts.getD (2 * tix r k) 0, ts.getD (2 * tix r k + 1) 0]) _ from h3.env 21)
        have hwant : Region.wanted o (yielded o40_3 a3.tmps) = true := by
          have h13 := bool_at (show VR ρ (.bool true) (a3.tmps.getD 13 undef) from h3.env 13)
          have hyl : yielded o40_3 a3.tmps 5 = some true := by
            unfold yielded
            rw [op5]
            simp only [Option.bind_some]
            rw [h13]
          simp [Region.wanted, hog, hyl]
        obtain ⟨post, hpost⟩ := preP_split r k hlt hisp
        have henc : (#[Operand.tmp 15, Operand.tmp 21] : Array Operand).map a3.eval = encP ts r k := by
          simp [hv15, hv21, encP]
        have hyy := hy (preP r k) k post w3 hpost h3.heap k3
        rw [← henc] at hyy
        refine yield_in ho hop hv14 hwant hyy fun w4 ⟨h4, k4⟩ => ?_
        rw [hod]
        have h5 : SR [] 26 6 ρ w0 S ρ (s15 l ts (bs (preP r k ++ [k])) r k (.bool true)) (a3.put (some 22) (.bool true)) w4 :=
          (h3.turn (h' := hp ts (bs (preP r k ++ [k])) r) (Nat.le_refl 6) h4).set (d := 22) (by omega) (e := .bool true) (v := .bool true) rfl
        obtain ⟨y, hy1, hy2⟩ := Option.map_eq_some_iff.1 (e3z l ts (bs (preP r k ++ [k])) r k)
        refine ops_first_kept (ix := [15, 16]) (tl := []) Wide.wide hnl cq40_3 cB_ok cB_can (recs := y.2) hy1 h5 k4 fun a5 w5 ρ5 h6 k5 => ?_
        have h7 := h6.first 7
        rw [hy2] at h7
        rw [hsame h7 rfl rfl] at h7
        exact ⟨rfl, h7, k5⟩
    · rintro e a3 w3 ⟨he, h3, k3⟩
      subst he
      have hc3 : a3.eval (.tmp 24) = .bool false := VR_bool (show VR ρ (.bool false) _ from h3.env 24)
      refine wpIn_cond_false hc3 (wpIn_skip ?_)
      obtain ⟨st4, hrun4, hkill4⟩ := Option.map_eq_some_iff.1 (e4 l ts (bs (preP r (k + 1))) r k hlt)
      refine region_kept Wide.wide cq40_4 cB_ok cB_can hrun4 h3 k3 fun a4 w4 ρ4 h4 k4 => ?_
      have h5 := h4.kill [4, 6, 24]
      rw [hkill4] at h5
      rw [hsame h5 rfl rfl] at h5
      exact ⟨hlt, h5, k4⟩
  · have hk : k = 16 := by omega
    subst hk
    refine wpIn_seq (wpIn_cond_false hc (wpIn_exit ?_))
    exact ⟨h1.defers, _, results_none rfl _ _ _, ⟨_, rfl⟩, h1.heap, k1⟩
end NF
end Go.Proofs.Ytmmfgbifbbiihaa
