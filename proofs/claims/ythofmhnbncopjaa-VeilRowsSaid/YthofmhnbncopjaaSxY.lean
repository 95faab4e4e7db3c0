/-
  A law's argument that is a struct of flat fields and of slices. Conditions: none.
-/
import Derived.Test.YthofmhnbncopjaaSxX
namespace Go.Sx
open Go Go.RowKit Go.WideShapes Go.ChangeShapes
set_option linter.unusedVariables false

inductive CT where
  | flat (b : BT)
  | sl (t : TypeId)
def fieldC (P : Program) (t : TypeId) : Option (List CT) :=
  match eqT P 8 t with
  | some bs => some (bs.map .flat)
  | none => match P.underlying t with
    | some (.slice _) => if P.cellsOf t = 1 then some [.sl t] else none
    | _ => none
def mixGo (P : Program) (off : Nat) : List Field → Option (List CT)
  | [] => some []
  | f :: r => match fieldC P f.type with
    | some x => if f.offset = off then (mixGo P (off + x.length) r).map (x ++ ·) else none
    | none => none
def mixT (P : Program) (t : TypeId) : Option (List CT) := match P.underlying t with
  | some (.struct fs) => match mixGo P 0 fs.toList with
    | some l => if P.cellsOf t = l.length then some l else none
    | none => none
  | _ => none
section
variable {H : Type} (enc : TypeId × Value → H) (P : Program) (w : World) (base : Nat) (sp : Nat → Bool) (held : Bool)
def CellC : CT → Value → Prop
  | .flat b, v => CellIs b v
  | .sl t, v => v.cells.toList = [v] ∧ v.oneCell' = true ∧ ∃ d p, DataW.Trod enc P w base sp held t v d p
def CellsC : List CT → List Value → Prop
  | [], vs => vs = []
  | b :: bs, vs => ∃ v r, vs = v :: r ∧ CellC enc P w base sp held b v ∧ CellsC bs r
end
section
variable {H : Type} {enc : TypeId × Value → H} {P : Program} {w : World} {base : Nat} {sp : Nat → Bool} {held : Bool}
theorem CellsC.append : ∀ {a b : List CT} {x y : List Value}, CellsC enc P w base sp held a x → CellsC enc P w base sp held b y → CellsC enc P w base sp held (a ++ b) (x ++ y)
  | [], b, x, y, h, k => by simp only [CellsC] at h; subst h; exact k
  | c :: a, b, x, y, h, k => by
    obtain ⟨v, r, rfl, h1, h2⟩ := h
    exact ⟨v, r ++ y, rfl, h1, h2.append k⟩
theorem CellsC.of_flat : ∀ {bs : List BT} {x : List Value}, CellsAre bs x → CellsC enc P w base sp held (bs.map .flat) x
  | [], x, h => by simpa [CellsAre, CellsC] using h
  | b :: bs, x, h => by
    obtain ⟨v, r, rfl, h1, h2⟩ := h
    exact ⟨v, r, rfl, h1, CellsC.of_flat h2⟩
theorem fieldC_ok {t : TypeId} {x : List CT} (h : fieldC P t = some x) {n : Nat} {cs : List Value} {y : DataW H × List MemPlace} (hy : DataW.trod enc P w base sp held n t cs = some y) : P.cellsOf t = x.length ∧ CellsC enc P w base sp held x cs := by
  unfold fieldC at h
  split at h
  · rename_i bs hb
    cases h
    rw [List.length_map]
    exact ⟨eqT_cells hb, CellsC.of_flat (trod_flat 8 t bs hb n cs y hy)⟩
  · split at h
    · rename_i e hu
      split at h
      · rename_i hc
        cases h
        refine ⟨hc, ?_⟩
        rcases Go.Deep.open_slice hu hy with ⟨rfl, _⟩ | ⟨a, len, cap, m, k, D, Pl, rfl, _⟩
        · exact ⟨_, [], rfl, ⟨rfl, rfl, _, _, n, hy⟩, rfl⟩
        · exact ⟨_, [], rfl, ⟨rfl, rfl, _, _, n, hy⟩, rfl⟩
      · cases h
    · cases h
theorem trod_mix {t : TypeId} {l : List CT} (h : mixT P t = some l) {fuel : Nat} {cs : List Value} {x : DataW H × List MemPlace} (hx : DataW.trod enc P w base sp held fuel t cs = some x) : CellsC enc P w base sp held l cs := by
  unfold mixT at h
  split at h
  · rename_i fs hu
    split at h
    · rename_i l' hraw
      split at h
      · rename_i hcl
        cases h
        obtain ⟨xs, n, _, _, hlen, hxl, hf⟩ := DataW.trod_struct hu hx
        have key : ∀ (l : List Field) (k off : Nat) (bs : List CT), (∀ (i : Nat) (f : Field), l[i]? = some f → fs[k + i]? = some f) → mixGo P off l = some bs → off + bs.length ≤ cs.length → CellsC enc P w base sp held bs ((cs.drop off).take bs.length) := by
          intro l
          induction l with
          | nil => intro k off bs _ h _; simp [mixGo] at h; subst h; simp [CellsC]
          | cons f r ih =>
            intro k off bs hl h hle
            simp only [mixGo] at h
            split at h
            · rename_i x hx'
              split at h
              · rename_i hof
                cases hr : mixGo P (off + x.length) r with
                | none => rw [hr] at h; cases h
                | some y =>
                  rw [hr] at h
                  simp only [Option.map_some, Option.some.injEq] at h
                  subst h
                  simp only [List.length_append] at hle ⊢
                  rw [take_add', List.drop_drop]
                  have hfi := hf k f (by simpa using hl 0 f rfl)
                  have hk : k < xs.length := by
                    rw [hxl]
                    have := hl 0 f rfl
                    rw [Nat.add_zero] at this
                    exact (Array.getElem?_eq_some_iff.1 this).1
                  rw [List.getElem?_eq_getElem hk] at hfi
                  obtain ⟨hc1, hc2⟩ := fieldC_ok hx' hfi
                  rw [hof, hc1] at hc2
                  refine hc2.append (ih (k + 1) (off + x.length) y (fun i g hg => ?_) hr (by omega))
                  have := hl (i + 1) g (by simpa using hg)
                  rwa [show k + 1 + i = k + (i + 1) by omega]
              · cases h
            · cases h
        have := key fs.toList 0 0 l (fun i f hi => by rw [Nat.zero_add]; simpa using hi) hraw (by rw [hlen, hcl]; omega)
        rw [List.drop_zero, List.take_of_length_le (by rw [hlen, hcl]; exact Nat.le_refl _)] at this
        exact this
      · cases h
    · cases h
  · cases h
/-- An argument that is a struct of flat fields and slices. -/
theorem open_mix {r : Reach} {b0 : Nat} {t : TypeId} {v : Value} {d : DataW H} {p : List MemPlace} {bs : List CT} (hb : mixT P t = some bs) (ha : aggT P t = some true) (hv : Value.okWide P w r b0 t v) (h : DataW.Trod enc P w base sp held t v d p) :
    ∃ cs : List Value, v = .agg cs.toArray ∧ CellsC enc P w base sp held bs cs := by
  obtain ⟨n, hn⟩ := h
  have hf := trod_mix hb hn
  have hagg : ∃ cs, v = .agg cs := by
    unfold Value.okWide at hv
    unfold aggT at ha
    split at hv
    · obtain ⟨cs, e, _⟩ := hv; exact ⟨cs, e⟩
    · obtain ⟨cs, e, _⟩ := hv; exact ⟨cs, e⟩
    · rename_i h1 h2
      split at ha
      · rename_i fs e; exact absurd e (h1 fs)
      · rename_i m e he; exact absurd he (h2 m e)
      · cases ha
      · cases ha
  obtain ⟨cs, rfl⟩ := hagg
  exact ⟨cs.toList, by simp, by simpa [Value.cells] using hf⟩
end
end Go.Sx
