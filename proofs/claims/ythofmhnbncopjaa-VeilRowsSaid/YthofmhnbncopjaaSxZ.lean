/-
  A law's argument that is a slice of structs whose fields are integers, bools, and slices that nobody looks at. Conditions: none.
-/
import Derived.Test.YthofmhnbncopjaaSxY
namespace Go.Sx
open Go Go.RowKit Go.WideShapes Go.ChangeShapes
set_option linter.unusedVariables false

def CK.bt : CK → BT
  | .int k => .int k
  | _ => .bool
def CK.wf : CK → Int → Prop
  | .int k, n => (Lit.int k n).wf = true
  | .bool, n => n = 0 ∨ n = 1
  | .any, _ => True
def CT.ck : CT → Option CK
  | .flat (.int k) => some (.int k)
  | .flat .bool => some .bool
  | .flat _ => none
  | .sl _ => some .any
/-- The cells of an element. -/
def ElemIs (ks : List CK) (cs : List Value) : Prop := ∃ l : List Int, l.length = ks.length ∧ ∀ (j : Nat) (k : CK), ks[j]? = some k → ∃ c, cs[j]? = some c ∧ c.oneCell' = true ∧ k.is (l.getD j 0) c ∧ k.wf (l.getD j 0)
theorem ElemIs.nil : ElemIs [] [] := ⟨[], rfl, fun j k hj => by simp at hj⟩
theorem ElemIs.cons {k : CK} {ks : List CK} {c : Value} {cs : List Value} {n : Int} (h1 : c.oneCell' = true) (h2 : k.is n c) (h3 : k.wf n) (h : ElemIs ks cs) : ElemIs (k :: ks) (c :: cs) := by
  obtain ⟨l, hl, hi⟩ := h
  refine ⟨n :: l, by simp [hl], fun j k' hj => ?_⟩
  cases j with
  | zero => simp at hj; subst hj; exact ⟨c, rfl, h1, h2, h3⟩
  | succ j => simpa using hi j k' (by simpa using hj)
theorem elem_flat : ∀ {ks : List CK} {cs : List Value}, CellsAre (ks.map CK.bt) cs → ElemIs ks cs
  | [], cs, h => by simp only [List.map_nil, CellsAre] at h; subst h; exact .nil
  | k :: r, cs, h => by
    obtain ⟨v, cs', rfl, hv, hr⟩ := h
    cases k with
    | int k => obtain ⟨n, rfl, hw⟩ := hv; exact .cons rfl (.inr rfl) hw (elem_flat hr)
    | bool => obtain ⟨b, rfl⟩ := hv; exact .cons (n := cond b 1 0) rfl (.inr (by cases b <;> rfl)) (by cases b; exact .inl rfl; exact .inr rfl) (elem_flat hr)
    | any => obtain ⟨b, rfl⟩ := hv; exact .cons (n := 0) rfl (.inl rfl) trivial (elem_flat hr)
section
variable {H : Type} {enc : TypeId × Value → H} {P : Program} {w : World} {base : Nat} {sp : Nat → Bool} {held : Bool}
theorem elem_mix : ∀ {cts : List CT} {ks : List CK} {cs : List Value}, cts.map CT.ck = ks.map some → CellsC enc P w base sp held cts cs → ElemIs ks cs
  | [], [], cs, _, h => by simp only [CellsC] at h; subst h; exact .nil
  | [], _ :: _, cs, e, h => by simp at e
  | _ :: _, [], cs, e, h => by simp at e
  | t :: r, k :: ks, cs, e, h => by
    simp only [List.map_cons, List.cons.injEq] at e
    obtain ⟨v, cs', rfl, hv, hr⟩ := h
    have hi := elem_mix e.2 hr
    cases t with
    | sl t =>
      obtain rfl : CK.any = k := by simpa [CT.ck] using e.1
      exact .cons (n := 0) hv.2.1 (.inl rfl) trivial hi
    | flat b =>
      cases b with
      | int q =>
        obtain rfl : CK.int q = k := by simpa [CT.ck] using e.1
        obtain ⟨n, rfl, hw⟩ := hv
        exact .cons rfl (.inr rfl) hw hi
      | bool =>
        obtain rfl : CK.bool = k := by simpa [CT.ck] using e.1
        obtain ⟨b, rfl⟩ := hv
        exact .cons (n := cond b 1 0) rfl (.inr (by cases b <;> rfl)) (by cases b; exact .inl rfl; exact .inr rfl) hi
      | str => simp [CT.ck] at e
      | cells l => simp [CT.ck] at e
      | ptr => simp [CT.ck] at e
      | slice => simp [CT.ck] at e
theorem open_core {t e : TypeId} {v : Value} {d : DataW H} {p : List MemPlace} {ks : List CK} (ht : P.underlying t = some (.slice e)) (hc : P.cellsOf e = ks.length) (hel : ∀ n cs x, DataW.trod enc P w base sp held n e cs = some x → ElemIs ks cs) (hz : 0 < ks.length) (hsp : ∀ b, sp b = true) (hv1 : v.cells.toList = [v]) (h : DataW.Trod enc P w base sp held t v d p) :
    v = .slice none 0 0 ∨ (∃ a, v = .slice (some a) 0 0) ∨ ∃ (l : List Int) (len : Nat) (L : Loc), l.length = len * ks.length ∧ len ≤ maxLen ∧ (∀ j, j < l.length → (kindAt ks j).wf (l.getD j 0)) ∧ RowIn w (⟨false, .mix ks l⟩, some L) ∧ ∀ (ρ : RM) (r : Nat), ρ r = some (some L) → VR ρ (.slice r 0 len ks.length) v := by
  obtain ⟨fuel, hn⟩ := h
  rw [hv1] at hn
  rcases Go.Deep.open_slice ht hn with ⟨h0, _⟩ | ⟨a, len, cap, m, n, D, Pl, h0, hba, hl, hm, hmm, _, hx⟩
  · left; simpa using h0
  · right
    simp only [List.cons.injEq, and_true] at h0
    subst h0
    rw [hsp, if_pos rfl] at hmm
    subst hmm
    obtain ⟨z, hzz⟩ : ∃ z, ks.length = z := ⟨_, rfl⟩
    rw [hzz] at hz hc ⊢
    by_cases hcap : m = 0
    · left
      subst hcap
      obtain rfl : len = 0 := by omega
      exact ⟨a, rfl⟩
    · right
      have hcells : ∀ i, i < m → ∃ l : List Int, l.length = z ∧ ∀ j, j < z → ∃ c, w.cell? ((a.add (i * z)).add j) = some c ∧ c.oneCell' = true ∧ (kindAt ks j).is (l.getD j 0) c ∧ (kindAt ks j).wf (l.getD j 0) := by
        intro i hi
        obtain ⟨cs', h1, h2⟩ := hx i hi
        rw [hc] at h1
        obtain ⟨_, hl', hcc⟩ := World.cells?_some h1
        obtain ⟨l, h3, h4⟩ := hel n _ _ h2
        refine ⟨l, h3.trans hzz, fun j hj => ?_⟩
        obtain ⟨c, h5, h6, h7, h8⟩ := h4 j (kindAt ks j) (kindAt_lt (by omega))
        exact ⟨c, by rw [hcc j hj]; simpa using h5, h6, h7, h8⟩
      have hspot : a.spot = none := by
        obtain ⟨l, _, h⟩ := hcells 0 (by omega)
        obtain ⟨c, h, _⟩ := h 0 hz
        have := World.cell?_spot h
        simpa [Addr.add] using this
      have hblock : a.block < w.heap.size := by
        obtain ⟨cs', h1, _⟩ := hx 0 (by omega)
        rw [hc] at h1
        have := World.cells?_block h1 hz
        simpa [Addr.add] using this
      obtain ⟨V, hV⟩ := Go.Deep.choose_lt (α := List Int) (p := fun i l => l.length = z ∧ ∀ j, j < z → ∃ c, w.cell? ((a.add (i * z)).add j) = some c ∧ c.oneCell' = true ∧ (kindAt ks j).is (l.getD j 0) c ∧ (kindAt ks j).wf (l.getD j 0)) (n := m) hcells
      have hflat : ∀ q, q ≤ m → ((List.range q).flatMap V).length = q * z ∧ ∀ j, j < q * z → ∃ c, w.cell? ⟨a.block, a.off + j, none⟩ = some c ∧ c.oneCell' = true ∧ (kindAt ks j).is (((List.range q).flatMap V).getD j 0) c ∧ (kindAt ks j).wf (((List.range q).flatMap V).getD j 0) := by
        intro q
        induction q with
        | zero => intro _; simp
        | succ q ih =>
          intro hq
          obtain ⟨i1, i3⟩ := ih (by omega)
          obtain ⟨v1, v3⟩ := hV q (by omega)
          rw [List.range_succ, List.flatMap_append, List.flatMap_singleton]
          refine ⟨by rw [List.length_append, i1, v1, Nat.succ_mul], fun j hj => ?_⟩
          by_cases hlt : j < q * z
          · have e0 : ((List.range q).flatMap V ++ V q).getD j 0 = ((List.range q).flatMap V).getD j 0 := by
              simp [List.getElem?_append_left (show j < ((List.range q).flatMap V).length by rw [i1]; exact hlt)]
            rw [e0]
            exact i3 j hlt
          · rw [Nat.succ_mul] at hj
            have h7 := v3 (j - q * z) (by omega)
            have e1 : (a.add (q * z)).add (j - q * z) = ⟨a.block, a.off + j, none⟩ := by
              rw [add_none hspot, add_none (by rfl)]
              simp only [Addr.mk.injEq, true_and, and_true]
              omega
            have e2 : kindAt ks j = kindAt ks (j - q * z) := by
              have := kindAt_add (ks := ks) (i := q * z) (j := j - q * z) (by rw [hzz]; exact Nat.mul_mod_left q z)
              rwa [show q * z + (j - q * z) = j by omega] at this
            have e0 : ((List.range q).flatMap V ++ V q).getD j 0 = (V q).getD (j - q * z) 0 := by
              simp [List.getElem?_append_right (show ((List.range q).flatMap V).length ≤ j by rw [i1]; omega), i1]
            rw [e0, e2, ← e1]
            exact h7
      obtain ⟨f1, f3⟩ := hflat len hl
      refine ⟨(List.range len).flatMap V, len, ⟨a.block, a.off, m * z⟩, f1, by omega, fun j hj => (f3 j (by omega)).choose_spec.2.2.2, ⟨fun L hL => ?_, fun hL => (by cases hL)⟩, fun ρ r hr => ?_⟩
      · cases hL
        refine ⟨rfl, fun ρ => ⟨?_, ?_⟩, hblock⟩
        · simp only [clen]
          rw [f1]
          exact Nat.mul_le_mul_right z hl
        · simp only [Bool.false_eq_true, if_false]
          refine ⟨rfl, fun j x hj => ?_⟩
          simp only [cget, Option.map_eq_some_iff] at hj
          obtain ⟨y, hy, rfl⟩ := hj
          have hjl : j < ((List.range len).flatMap V).length := (List.getElem?_eq_some_iff.1 hy).1
          have hg : ((List.range len).flatMap V).getD j 0 = y := by simp [hy]
          obtain ⟨c, h8, h9, h10, _⟩ := f3 j (by omega)
          rw [hg] at h10
          refine ⟨c, h8, h9, ?_⟩
          rcases h10 with h10 | h10
          · rw [h10]; simp [CK.dec, VR]
          · rw [h10]; cases kindAt ks j <;> simp [VR, CK.val, CK.dec]
      · simp only [VR]
        refine ⟨a, m, rfl, hl, some ⟨a.block, a.off, m * z⟩, hr, fun L hL => ?_⟩
        cases hL
        refine ⟨fun _ => ?_, by simp⟩
        obtain ⟨ab, ao, as⟩ := a
        simp only at hspot
        subst hspot
        simp
/-- A slice of flat structs. -/
theorem open_slm {t e : TypeId} {v : Value} {d : DataW H} {p : List MemPlace} {ks : List CK} (ht : P.underlying t = some (.slice e)) (hb : eqT P 8 e = some (ks.map CK.bt)) (hz : 0 < ks.length) (hsp : ∀ b, sp b = true) (hv1 : v.cells.toList = [v]) (h : DataW.Trod enc P w base sp held t v d p) :
    v = .slice none 0 0 ∨ (∃ a, v = .slice (some a) 0 0) ∨ ∃ (l : List Int) (len : Nat) (L : Loc), l.length = len * ks.length ∧ len ≤ maxLen ∧ (∀ j, j < l.length → (kindAt ks j).wf (l.getD j 0)) ∧ RowIn w (⟨false, .mix ks l⟩, some L) ∧ ∀ (ρ : RM) (r : Nat), ρ r = some (some L) → VR ρ (.slice r 0 len ks.length) v :=
  open_core ht ((eqT_cells hb).trans (List.length_map _)) (fun n cs x hx => elem_flat (trod_flat 8 e _ hb n cs x hx)) hz hsp hv1 h
theorem mixT_cells {t : TypeId} {l : List CT} (h : mixT P t = some l) : P.cellsOf t = l.length := by
  unfold mixT at h
  split at h
  · split at h
    · split at h
      · rename_i hc; cases h; exact hc
      · cases h
    · cases h
  · cases h
/-- A slice of structs with slices in them. -/
theorem open_slx {t e : TypeId} {v : Value} {d : DataW H} {p : List MemPlace} {ks : List CK} {cts : List CT} (ht : P.underlying t = some (.slice e)) (hb : mixT P e = some cts) (hk : cts.map CT.ck = ks.map some) (hz : 0 < ks.length) (hsp : ∀ b, sp b = true) (hv1 : v.cells.toList = [v]) (h : DataW.Trod enc P w base sp held t v d p) :
    v = .slice none 0 0 ∨ (∃ a, v = .slice (some a) 0 0) ∨ ∃ (l : List Int) (len : Nat) (L : Loc), l.length = len * ks.length ∧ len ≤ maxLen ∧ (∀ j, j < l.length → (kindAt ks j).wf (l.getD j 0)) ∧ RowIn w (⟨false, .mix ks l⟩, some L) ∧ ∀ (ρ : RM) (r : Nat), ρ r = some (some L) → VR ρ (.slice r 0 len ks.length) v :=
  open_core ht ((mixT_cells hb).trans (by have := congrArg List.length hk; simpa using this)) (fun n cs x hx => elem_mix hk (trod_mix hb hx)) hz hsp hv1 h
end
end Go.Sx
