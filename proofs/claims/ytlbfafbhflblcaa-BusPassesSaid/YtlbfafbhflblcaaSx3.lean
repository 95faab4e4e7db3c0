/-
  A law's arguments as slices by contents: of integers, of flat records, and of records with slices in them. Conditions: none.
-/
import Derived.Test.YtlbfafbhflblcaaSxZ
namespace Go.Sx
open Go Go.RowKit Go.WideShapes Go.ChangeShapes
set_option linter.unusedVariables false
def goT (P : Program) (g : TypeId → Option (List CT)) (off : Nat) : List Field → Option (List CT)
  | [] => some []
  | f :: r => match g f.type with
    | some x => if f.offset = off then (goT P g (off + x.length) r).map (x ++ ·) else none
    | none => none
def Zcx (P : Program) : Nat → TypeId → Option (List CT)
  | 0, _ => none
  | d + 1, t => match eqT P 8 t with
    | some bs => some (bs.map .flat)
    | none => match P.underlying t with
      | some (.slice _) => if P.cellsOf t = 1 then some [.sl t] else none
      | some (.struct fs) => match goT P (Zcx P d) 0 fs.toList with
        | some l => if P.cellsOf t = l.length then some l else none
        | none => none
      | _ => none
section
variable {H : Type} {enc : TypeId × Value → H} {P : Program} {w : World} {base : Nat} {sp : Nat → Bool} {held : Bool}
theorem Zfw : ∀ {d : Nat} {t : TypeId} {l : List CT}, Zcx P d t = some l → P.cellsOf t = l.length
  | 0, t, l, h => by cases h
  | d + 1, t, l, h => by
    unfold Zcx at h
    split at h
    · rename_i bs hb
      cases h
      rw [List.length_map]
      exact Zb9 hb
    · split at h
      · split at h
        · rename_i hc; cases h; exact hc
        · cases h
      · split at h
        · split at h
          · rename_i hc; cases h; exact hc
          · cases h
        · cases h
      · cases h
theorem Zfx : ∀ {d : Nat} {t : TypeId} {l : List CT}, Zcx P d t = some l → ∀ {fuel : Nat} {cs : List Value} {x : DataW H × List MemPlace}, DataW.trod enc P w base sp held fuel t cs = some x → ZaY enc P w base sp held l cs
  | 0, t, l, h, fuel, cs, x, hx => by cases h
  | d + 1, t, l, h, fuel, cs, x, hx => by
    have ih0 : ∀ {t : TypeId} {l : List CT}, Zcx P d t = some l → ∀ {fuel : Nat} {cs : List Value} {x : DataW H × List MemPlace}, DataW.trod enc P w base sp held fuel t cs = some x → ZaY enc P w base sp held l cs := fun h => Zfx h
    unfold Zcx at h
    split at h
    · rename_i bs hb
      cases h
      exact ZaY.of_flat (Zdg 8 t bs hb fuel cs x hx)
    · split at h
      · rename_i e hu
        split at h
        · cases h
          rcases Go.Deep.open_slice hu hx with ⟨rfl, _⟩ | ⟨a, len, cap, m, k, D, Pl, rfl, _⟩
          · exact ⟨_, [], rfl, ⟨rfl, rfl, _, _, fuel, hx⟩, rfl⟩
          · exact ⟨_, [], rfl, ⟨rfl, rfl, _, _, fuel, hx⟩, rfl⟩
        · cases h
      · rename_i fs hu
        split at h
        · rename_i l' hraw
          split at h
          · rename_i hcl
            cases h
            obtain ⟨xs, n, _, _, hlen, hxl, hf⟩ := DataW.trod_struct hu hx
            have key : ∀ (l : List Field) (k off : Nat) (bs : List CT), (∀ (i : Nat) (f : Field), l[i]? = some f → fs[k + i]? = some f) → goT P (Zcx P d) off l = some bs → off + bs.length ≤ cs.length → ZaY enc P w base sp held bs ((cs.drop off).take bs.length) := by
              intro l
              induction l with
              | nil => intro k off bs _ h _; simp [goT] at h; subst h; simp [ZaY]
              | cons f r ih =>
                intro k off bs hl h hle
                simp only [goT] at h
                split at h
                · rename_i x hx'
                  split at h
                  · rename_i hof
                    cases hr : goT P (Zcx P d) (off + x.length) r with
                    | none => rw [hr] at h; cases h
                    | some y =>
                      rw [hr] at h
                      simp only [Option.map_some, Option.some.injEq] at h
                      subst h
                      simp only [List.length_append] at hle ⊢
                      rw [ZeX, List.drop_drop]
                      have hfi := hf k f (by simpa using hl 0 f rfl)
                      have hk : k < xs.length := by
                        rw [hxl]
                        have := hl 0 f rfl
                        rw [Nat.add_zero] at this
                        exact (Array.getElem?_eq_some_iff.1 this).1
                      rw [List.getElem?_eq_getElem hk] at hfi
                      have hc1 := Zfw hx'
                      have hc2 := ih0 hx' hfi
                      rw [hof, hc1] at hc2
                      refine hc2.append (ih (k + 1) (off + x.length) y (fun i g hg => ?_) hr (by omega))
                      have := hl (i + 1) g (by simpa using hg)
                      rwa [show k + 1 + i = k + (i + 1) by omega]
                  · cases h
                · cases h
            have := key fs.toList 0 0 l (fun i f hi => by rw [Nat.zero_add]; simpa using hi) hraw (by rw [hlen, hcl]; omega)
            rw [List.drop_zero, List.take_of_length_le (by rw [hlen, hcl]; exact Nat.le_refl _)] at this
            exact this
          · cases h
        · cases h
      · cases h
abbrev World.F (w : World) : Nat → Option Obj := fun b => w.heap[b]?
theorem Zdw (w : World) (b j : Nat) : fcell (World.F w) b j = w.cell? ⟨b, j, none⟩ := by
  unfold fcell World.cell? World.F
  simp only
  cases w.heap[b]? with
  | none => rfl
  | some o => cases o <;> rfl
theorem Zm8 {c : EV} {L : Loc} (hc : (∃ k l, c = .ints k l) ∨ ∃ ks l, c = .mix ks l) (h : RowIn w (⟨false, c⟩, some L)) : ZdW (World.F w) c L.block L.base := by
  obtain ⟨_, h2, _⟩ := h.live L rfl
  have h3 := (h2 (RM.none (World.F w))).2
  simp only [Bool.false_eq_true, if_false] at h3
  obtain ⟨_, h3⟩ := h3
  rcases hc with ⟨k, l, rfl⟩ | ⟨ks, l, rfl⟩
  · intro j n hn
    obtain ⟨v, h4, _, h5⟩ := h3 j (.int k n) (by simp [cget, hn])
    simp only [VR] at h5
    rw [Zdw, ← h5]
    exact h4
  · intro j n hn
    obtain ⟨v, h4, h6, h5⟩ := h3 j ((Zad ks j).dec n) (by simp [cget, hn])
    exact ⟨v, by rw [Zdw]; exact h4, h6, Zns h5⟩
theorem Zob {c : EV} {L : Loc} {len z : Nat} {v : Value} (hc : (∃ k l, c = .ints k l) ∨ ∃ ks l, c = .mix ks l) (h : RowIn w (⟨false, c⟩, some L)) (hl : len * z ≤ clen c) (hv : ∀ (ρ : RM) (r : Nat), ρ r = some (some L) → VR ρ (.slice r 0 len z) v) : ZdA (World.F w) c len z v := by
  have h1 := hv ⟨fun _ => some (some L), World.F w, fun _ => False⟩ 0 rfl
  simp only [VR] at h1
  obtain ⟨a, cap, rfl, hcap, l, hl', ha⟩ := h1
  cases hl'
  by_cases h0 : cap = 0
  · subst h0
    obtain rfl : len = 0 := by omega
    exact .inl ⟨⟨_, rfl⟩, rfl⟩
  · right
    exact ⟨L.block, L.base, cap, by rw [(ha L rfl).1 h0]; rfl, hcap, hl, Zm8 hc h⟩
theorem ZjB {t e : TypeId} {v : Value} {d : DataW H} {p : List MemPlace} {z : Nat} {k : IntKind} (ht : P.underlying t = some (.slice e)) (hb : eqT P 8 e = some (List.replicate z (.int k))) (hz : 0 < z) (hsp : ∀ b, sp b = true) (hv1 : v.cells.toList = [v]) (h : DataW.Trod enc P w base sp held t v d p) :
    ∃ (l : List Int) (len : Nat), l.length = len * z ∧ len ≤ maxLen ∧ (∀ x ∈ l, (Lit.int k x).wf = true) ∧ ZdA (World.F w) (.ints k l) len z v := by
  rcases Zm7 ht hb hz hsp hv1 h with rfl | ⟨a, rfl⟩ | ⟨l, len, L, h1, h2, h3, h4, h5⟩
  · exact ⟨[], 0, by simp, Nat.zero_le _, by simp, .inl ⟨⟨none, rfl⟩, rfl⟩⟩
  · exact ⟨[], 0, by simp, Nat.zero_le _, by simp, .inl ⟨⟨some a, rfl⟩, rfl⟩⟩
  · exact ⟨l, len, h1, h2, h3, Zob (.inl ⟨k, l, rfl⟩) h4 (by simp [clen, h1]) h5⟩
theorem ZjD {F : Nat → Option Obj} {c : EV} {n z : Nat} {v : Value} (h : ZdA F c n z v) : roR F c n z v :=
  h.imp id fun ⟨b, base, cap, h1, h2, h3, h4⟩ => ⟨b, base, cap, h1, h2, h3, Zgs h4⟩
def Zca (k : IntKind) : List BT → Nat → Bool
  | [], 0 => true
  | .int k' :: r, z + 1 => decide (k = k') && Zca k r z
  | _, _ => false
theorem Zhi {k : IntKind} : ∀ {bs : List BT} {z : Nat}, Zca k bs z = true → bs = List.replicate z (.int k)
  | [], 0, _ => rfl
  | [], z + 1, h => by simp [Zca] at h
  | .int k' :: r, z + 1, h => by
    simp only [Zca, Bool.and_eq_true, decide_eq_true_eq] at h
    rw [← h.1, Zhi h.2]; rfl
  | b :: r, 0, h => by cases b <;> simp [Zca] at h
  | .bool :: r, z + 1, h => by simp [Zca] at h
  | .str :: r, z + 1, h => by simp [Zca] at h
  | .cells _ :: r, z + 1, h => by simp [Zca] at h
  | .ptr :: r, z + 1, h => by simp [Zca] at h
  | .slice :: r, z + 1, h => by simp [Zca] at h
def NK.fits (P : Program) : NK → CT → Bool
  | .c (.int k), .flat (.int k') => decide (k = k')
  | .c .bool, .flat .bool => true
  | .si k z, .sl t => match P.underlying t with
    | some (.slice e) => match eqT P 8 e with
      | some bs => Zca k bs z && decide (0 < z)
      | none => false
    | _ => false
  | _, _ => false
def Ze5 (P : Program) : List NK → List CT → Bool
  | [], [] => true
  | k :: r, c :: s => k.fits P c && Ze5 P r s
  | _, _ => false
def NK.wf : NK → NC → Prop
  | .c k, x => k.wf x.i ∧ x.l = []
  | .si k z, x => (∀ y ∈ x.l, (Lit.int k y).wf = true) ∧ x.l.length = many z x.l * z ∧ many z x.l ≤ maxLen ∧ x.i = 0
  | .sm _, _ => True
  | .pt _ _ _, _ => True
def Zl3 (F : Nat → Option Obj) (ks : List NK) (cs : List Value) : Prop := ∃ l : List NC, l.length = ks.length ∧ ∀ (j : Nat) (k : NK), ks[j]? = some k → ∃ c, cs[j]? = some c ∧ c.oneCell' = true ∧ k.is F (l.getD j ⟨0, []⟩) c ∧ k.wf (l.getD j ⟨0, []⟩)
theorem Zl3.cons {F : Nat → Option Obj} {k : NK} {ks : List NK} {c : Value} {cs : List Value} {n : NC} (h1 : c.oneCell' = true) (h2 : k.is F n c) (h3 : k.wf n) (h : Zl3 F ks cs) : Zl3 F (k :: ks) (c :: cs) := by
  obtain ⟨l, hl, hi⟩ := h
  refine ⟨n :: l, by simp [hl], fun j k' hj => ?_⟩
  cases j with
  | zero => simp at hj; subst hj; exact ⟨c, rfl, h1, h2, h3⟩
  | succ j => simpa using hi j k' (by simpa using hj)
theorem Zm9 {z len : Nat} {l : List Int} (hz : 0 < z) (h : l.length = len * z) : many z l = len := by
  unfold many
  split
  · omega
  · rw [h, Nat.mul_div_cancel _ hz]
theorem Zhj (hsp : ∀ b, sp b = true) : ∀ {cts : List CT} {ks : List NK} {cs : List Value}, Ze5 P ks cts = true → ZaY enc P w base sp held cts cs → Zl3 (World.F w) ks cs
  | [], [], cs, _, h => ⟨[], rfl, fun j k hj => by simp at hj⟩
  | [], _ :: _, cs, e, h => by simp [Ze5] at e
  | _ :: _, [], cs, e, h => by simp [Ze5] at e
  | t :: r, k :: ks, cs, e, h => by
    simp only [Ze5, Bool.and_eq_true] at e
    obtain ⟨v, cs', rfl, hv, hr⟩ := h
    have hi := Zhj hsp e.2 hr
    have e1 := e.1
    cases k with
    | c k => cases t with
      | sl t => cases k <;> simp [NK.fits] at e1
      | flat b => cases k with
        | any => simp [NK.fits] at e1
        | int k => cases b <;> simp [NK.fits] at e1
                   subst e1
                   obtain ⟨n, rfl, hw⟩ := hv
                   exact .cons (n := ⟨n, []⟩) rfl (.inr rfl) ⟨hw, rfl⟩ hi
        | bool => cases b <;> simp [NK.fits] at e1
                  obtain ⟨b, rfl⟩ := hv
                  exact .cons (n := ⟨cond b 1 0, []⟩) rfl (.inr (by cases b <;> rfl)) ⟨by cases b; exact .inl rfl; exact .inr rfl, rfl⟩ hi
    | si k z => cases t with
      | flat b => simp [NK.fits] at e1
      | sl t =>
        simp only [NK.fits] at e1
        split at e1
        · rename_i e' hu
          split at e1
          · rename_i bs hb
            simp only [Bool.and_eq_true, decide_eq_true_eq] at e1
            obtain ⟨q1, q2⟩ := e1
            rw [Zhi q1] at hb
            obtain ⟨hc, h1, d, p, hd⟩ := hv
            obtain ⟨l, len, g1, g2, g3, g4⟩ := ZjB hu hb q2 hsp hc hd
            have hm := Zm9 q2 g1
            exact .cons (n := ⟨0, l⟩) h1 (by show ZdA _ (.ints k l) (many z l) z v; rw [hm]; exact g4) ⟨g3, by show l.length = many z l * z; rw [hm]; exact g1, by show many z l ≤ maxLen; rw [hm]; exact g2, rfl⟩ hi
          · cases e1
        · cases e1
    | sm ks => cases t <;> simp [NK.fits] at e1
    | pt a z b => cases t <;> simp [NK.fits] at e1
theorem ZjC {t e : TypeId} {v : Value} {d : DataW H} {p : List MemPlace} {ks : List NK} {cts : List CT} (ht : P.underlying t = some (.slice e)) (hb : Zcx P 4 e = some cts) (hk : Ze5 P ks cts = true) (hz : 0 < ks.length) (hsp : ∀ b, sp b = true) (hv1 : v.cells.toList = [v]) (h : DataW.Trod enc P w base sp held t v d p) :
    ∃ (l : List NC) (len : Nat), l.length = len * ks.length ∧ len ≤ maxLen ∧ (∀ j, j < l.length → (Z8 ks j).wf (l.getD j ⟨0, []⟩)) ∧ roR (World.F w) (.nest ks l) len ks.length v := by
  have fl : ∀ {ks : List NK} {cts : List CT}, Ze5 P ks cts = true → cts.length = ks.length := by
    intro ks
    induction ks with
    | nil => intro cts h; cases cts with | nil => rfl | cons _ _ => simp [Ze5] at h
    | cons k r ih => intro cts h; cases cts with
      | nil => simp [Ze5] at h
      | cons c s => simp only [Ze5, Bool.and_eq_true] at h; simp [ih h.2]
  have hc : P.cellsOf e = ks.length := (Zfw hb).trans (fl hk)
  obtain ⟨fuel, hn⟩ := h
  rw [hv1] at hn
  rcases Go.Deep.open_slice ht hn with ⟨h0, _⟩ | ⟨a, len, cap, m, n, D, Pl, h0, hba, hl, hm, hmm, _, hx⟩
  · simp only [List.cons.injEq, and_true] at h0
    subst h0
    exact ⟨[], 0, by simp, Nat.zero_le _, by simp, .inl ⟨⟨none, rfl⟩, rfl⟩⟩
  · simp only [List.cons.injEq, and_true] at h0
    subst h0
    rw [hsp, if_pos rfl] at hmm
    subst hmm
    obtain ⟨z, hzz⟩ : ∃ z, ks.length = z := ⟨_, rfl⟩
    rw [hzz] at hz hc ⊢
    by_cases hcap : m = 0
    · subst hcap
      obtain rfl : len = 0 := by omega
      exact ⟨[], 0, by simp, Nat.zero_le _, by simp, .inl ⟨⟨some a, rfl⟩, rfl⟩⟩
    · have hcells : ∀ i, i < m → ∃ l : List NC, l.length = z ∧ ∀ j, j < z → ∃ c, w.cell? ((a.add (i * z)).add j) = some c ∧ c.oneCell' = true ∧ (Z8 ks j).is (World.F w) (l.getD j ⟨0, []⟩) c ∧ (Z8 ks j).wf (l.getD j ⟨0, []⟩) := by
        intro i hi
        obtain ⟨cs', h1, h2⟩ := hx i hi
        rw [hc] at h1
        obtain ⟨_, hl', hcc⟩ := World.cells?_some h1
        obtain ⟨l, h3, h4⟩ := Zhj hsp hk (Zfx hb h2)
        refine ⟨l, h3.trans hzz, fun j hj => ?_⟩
        obtain ⟨c, h5, h6, h7, h8⟩ := h4 j (Z8 ks j) (ZfK (by omega))
        exact ⟨c, by rw [hcc j hj]; simpa using h5, h6, h7, h8⟩
      have hspot : a.spot = none := by
        obtain ⟨l, _, h⟩ := hcells 0 (by omega)
        obtain ⟨c, h, _⟩ := h 0 hz
        have := World.cell?_spot h
        simpa [Addr.add] using this
      obtain ⟨V, hV⟩ := Go.Deep.choose_lt (α := List NC) (p := fun i l => l.length = z ∧ ∀ j, j < z → ∃ c, w.cell? ((a.add (i * z)).add j) = some c ∧ c.oneCell' = true ∧ (Z8 ks j).is (World.F w) (l.getD j ⟨0, []⟩) c ∧ (Z8 ks j).wf (l.getD j ⟨0, []⟩)) (n := m) hcells
      have hflat : ∀ q, q ≤ m → ((List.range q).flatMap V).length = q * z ∧ ∀ j, j < q * z → ∃ c, w.cell? ⟨a.block, a.off + j, none⟩ = some c ∧ c.oneCell' = true ∧ (Z8 ks j).is (World.F w) (((List.range q).flatMap V).getD j ⟨0, []⟩) c ∧ (Z8 ks j).wf (((List.range q).flatMap V).getD j ⟨0, []⟩) := by
        intro q
        induction q with
        | zero => intro _; simp
        | succ q ih =>
          intro hq
          obtain ⟨i1, i3⟩ := ih (by omega)
          obtain ⟨v1, v3⟩ := hV q (by omega)
          rw [List.range_succ, List.flatMap_append, List.flatMap_singleton]
          refine ⟨by rw [List.length_append, i1, v1, Nat.succ_mul], fun j hj => ?_⟩
          by_cases hlt : j < q * z
          · have e0 : ((List.range q).flatMap V ++ V q).getD j ⟨0, []⟩ = ((List.range q).flatMap V).getD j ⟨0, []⟩ := by
              simp [List.getElem?_append_left (show j < ((List.range q).flatMap V).length by rw [i1]; exact hlt)]
            rw [e0]
            exact i3 j hlt
          · rw [Nat.succ_mul] at hj
            have h7 := v3 (j - q * z) (by omega)
            have e1 : (a.add (q * z)).add (j - q * z) = ⟨a.block, a.off + j, none⟩ := by
              rw [Zd5 hspot, Zd5 (by rfl)]
              simp only [Addr.mk.injEq, true_and, and_true]
              omega
            have e2 : Z8 ks j = Z8 ks (j - q * z) := by
              have := Zic (ks := ks) (i := q * z) (j := j - q * z) (f := 0) (by rw [hzz]; exact Nat.mul_mod_left q z) (by omega)
              rw [Nat.zero_add] at this
              rwa [show q * z + (j - q * z) = j by omega] at this
            have e0 : ((List.range q).flatMap V ++ V q).getD j ⟨0, []⟩ = (V q).getD (j - q * z) ⟨0, []⟩ := by
              simp [List.getElem?_append_right (show ((List.range q).flatMap V).length ≤ j by rw [i1]; omega), i1]
            rw [e0, e2, ← e1]
            exact h7
      obtain ⟨f1, f3⟩ := hflat len hl
      refine ⟨(List.range len).flatMap V, len, f1, by omega, fun j hj => (f3 j (by omega)).choose_spec.2.2.2, .inr ⟨a.block, a.off, m, ?_, hl, by simp only [clen]; omega, fun j x hj => ?_⟩⟩
      · obtain ⟨ab, ao, as⟩ := a
        simp only at hspot
        subst hspot
        rfl
      · have hjl : j < ((List.range len).flatMap V).length := (List.getElem?_eq_some_iff.1 hj).1
        have hg : ((List.range len).flatMap V).getD j ⟨0, []⟩ = x := by simp [hj]
        obtain ⟨c, h8, h9, h10, _⟩ := f3 j (by omega)
        rw [hg] at h10
        exact ⟨c, by rw [Zdw]; exact h8, h9, h10⟩
end
end Go.Sx
