/-
  An element appended to a list whose elements have heaps of their own: what is known afterwards. Conditions: none.
-/
import Derived.Test.YtlbfafbhflblcaaSx9
namespace Go.Sx
open Go
set_option linter.unusedVariables false
set_option linter.unusedSimpArgs false
section
variable {P : Program} {call : ZS} {a : Act} {w w0 : World} {S : List Nat} {σ : Nat → EV} {ρ : RM} {h : List Row} {n : Nat}
theorem Ziy {μ μ' : RM} {e : EV} {v : Value} (h : ∀ r, r ≠ 0 → μ' r = μ r) (h0 : 0 ∉ ptrs e) (hn : noF e = true) (hv : VR μ e v) : VR μ' e v := by
  have := Zfo (ρ := μ) (ρ' := μ') (σ := fun r => if r = 0 then none else some r) (fun r s l hs hl => by
    split at hs
    · cases hs
    · rename_i hr
      cases hs
      exact .inl ((h r hr).trans hl)) e v hn hv
  have e1 : ren (fun r => if r = 0 then none else some r) e = e := Zkk e fun r hr => if_neg (by rintro rfl; exact h0 hr)
  rwa [e1] at this
theorem Zjn {μ μ' : RM} {row : Row} {L : Loc} (h : ∀ r, r ≠ 0 → μ' r = μ r) (h0 : 0 ∉ ptrs row.c) (hn : noF row.c = true) (hv : RowR μ row L w) : RowR μ' row L w := by
  have := ZfU (ρ := μ) (ρ' := μ') (σ := fun r => if r = 0 then none else some r) (fun r s l hs hl => by
    split at hs
    · cases hs
    · rename_i hr
      cases hs
      exact .inl ((h r hr).trans hl)) hn hv
  have e : Zr (fun r => if r = 0 then none else some r) row = row := by
    obtain ⟨o, c⟩ := row
    simp only [Zr, Row.mk.injEq, true_and]
    exact Zkk c fun r hr => if_neg (by rintro rfl; exact h0 hr)
  rwa [e] at this
theorem ZgO {l : List EV} {e : EV} {j : Nat} (h : l[j]? = some e) {r : Nat} (hr : r ∈ ptrs e) : r ∈ ptrs (.agg l) := by
  simp only [ptrs]
  exact Zir h r hr
theorem HR.root {w0 w w' : World} {S : List Nat} {μ : RM} {q : Row} {rest : List Row} {l : List EV} {K : Loc} (hh : HR w0 S μ (q :: rest) w) (hF : μ.F = fun _ => none) (hrest : ∀ (j : Nat) (row : Row), rest[j]? = some row → row.own = true ∧ noF row.c = true ∧ 0 ∉ ptrs row.c)
    (hK : RowR (updM μ 0 (some K)) ⟨false, .agg l⟩ K w') (hb : ∀ j J, j ≠ 0 → μ j = some (some J) → w'.heap[J.block]? = w.heap[J.block]? ∧ J.block ≠ K.block) (hlt : K.block < w'.heap.size) (hf : Fr w0 S w') (hs : w.heap.size ≤ w'.heap.size) :
    HR w0 S (updM μ 0 (some K)) (⟨false, .agg l⟩ :: rest) w' := by
  have ho : ∀ r, r ≠ 0 → (updM μ 0 (some K)) r = μ r := fun r hr => ZA hr
  refine ⟨fun j hj => ?_, fun j row hj => ?_, fun j J hJ => ?_, fun j row J hj hro hJ => ?_, fun j k row J J' hj hne hro hJ hJ' => ?_, hf, fun b o hb' => (by have : μ.F b = some o := hb'; rw [hF] at this; cases this), fun j row J hj hro hJ => (by show μ.F _ = none; rw [hF]), fun b o hb' => (by have : μ.F b = some o := hb'; rw [hF] at this; cases this)⟩
  · cases j with
    | zero => simp at hj
    | succ j => rw [ho _ (Nat.succ_ne_zero j)]; exact hh.out (j + 1) (by simpa using hj)
  · cases j with
    | zero =>
      simp only [List.getElem?_cons_zero, Option.some.injEq] at hj
      subst hj
      exact .inr ⟨K, ZJ _ _ _, hK⟩
    | succ j =>
      rw [List.getElem?_cons_succ] at hj
      obtain ⟨r1, r2, r3⟩ := hrest j row hj
      rw [ho _ (Nat.succ_ne_zero j)]
      refine (hh.rows (j + 1) row (by simpa using hj)).imp id fun ⟨J, h1, h2⟩ => ⟨J, h1, Zjn ho r3 r2 (h2.same (hb (j + 1) J (Nat.succ_ne_zero j) h1).1)⟩
  · by_cases e : j = 0
    · subst e; rw [ZJ] at hJ; cases hJ; exact hlt
    · rw [ho j e] at hJ; exact Nat.lt_of_lt_of_le (hh.lt j J hJ) hs
  · cases j with
    | zero =>
      simp only [List.getElem?_cons_zero, Option.some.injEq] at hj
      subst hj; cases hro
    | succ j => rw [ho _ (Nat.succ_ne_zero j)] at hJ; exact hh.own (j + 1) row J (by simpa using hj) hro hJ
  · cases j with
    | zero =>
      simp only [List.getElem?_cons_zero, Option.some.injEq] at hj
      subst hj; cases hro
    | succ j =>
      rw [ho _ (Nat.succ_ne_zero j)] at hJ
      by_cases e : k = 0
      · subst e; rw [ZJ] at hJ'; cases hJ'; exact (hb _ J (Nat.succ_ne_zero j) hJ).2
      · rw [ho k e] at hJ'; exact hh.apart (j + 1) k row J J' (by simpa using hj) hne hro hJ hJ'
theorem Frag.move {w0 w w' : World} {S : List Nat} {L L' : Loc} {z i : Nat} {m : List (Bool × EV)} {μ : RM} {tg tg' : Nat → Prop} (hh : Frag w0 S L z i m w μ tg) (hf : Fr w0 S w') (hs : w.heap.size ≤ w'.heap.size) (hb : ∀ b, tg b → w'.heap[b]? = w.heap[b]? ∧ b ≠ L'.block) (ht : ∀ b, tg b → tg' b)
    (hsub : z = 0 → L'.sub i = L.sub i) (hcell : ∀ j, j < z → w'.cell? ⟨L'.block, i * z + j, none⟩ = w.cell? ⟨L.block, i * z + j, none⟩) (hlt : L'.block < w'.heap.size) :
    Frag w0 S L' z i m w' (if z = 0 then μ else updM μ 0 (some ⟨L'.block, i * z, z, fun _ => 0⟩)) tg' := by
  have hown : ∀ j J, j ≠ 0 ∨ z = 0 → μ j = some (some J) → tg J.block := fun j J hj hJ => by
    cases hr : (mh m)[j]? with
    | none => rw [hh.heap.out j hr] at hJ; cases hJ
    | some row =>
      refine hh.tag j row J hr ?_ hJ
      cases j with
      | succ j => exact hh.rest j row hr
      | zero =>
        rcases hj with hj | hj
        · exact absurd rfl hj
        · obtain ⟨K, c, h1, _⟩ := hh.ptr hj
          rw [h1] at hr; cases hr; rfl
  by_cases hz : z = 0
  · rw [if_pos hz]
    refine ⟨hh.heap.keep hh.F hf hs fun j J hJ => (hb _ (hown j J (.inr hz) hJ)).1, hh.F, hh.plain, hh.off, fun j row K h1 h2 h3 => ht _ (hh.tag j row K h1 h2 h3), fun _ => ?_, fun h => absurd hz h, hh.rest⟩
    obtain ⟨K, c, h1, h2, h3, h4, h5⟩ := hh.ptr hz
    exact ⟨K, c, h1, h2, h3, h4, h5.trans (hsub hz).symm⟩
  · rw [if_neg hz]
    obtain ⟨K, l, h1, h2, h3, h4, h5⟩ := hh.val hz
    obtain ⟨q, rest, hm⟩ : ∃ q rest, mh m = q :: rest := by
      cases hm : mh m with
      | nil => rw [hm] at h1; cases h1
      | cons q rest => exact ⟨q, rest, rfl⟩
    have hq : q = ⟨false, .agg l⟩ := by rw [hm] at h1; simpa using h1
    subst hq
    obtain ⟨K', e1, hrow⟩ := hh.heap.live h1 rfl
    rw [h3] at e1; cases e1
    have hread := hrow.read
    have hpl0 := hh.plain 0 _ h1
    have hoff0 := hh.off hz 0 _ h1
    have hRoot : RowR (updM μ 0 (some ⟨L'.block, i * z, z, fun _ => 0⟩)) ⟨false, .agg l⟩ ⟨L'.block, i * z, z, fun _ => 0⟩ w' := by
      refine ⟨by simp only [clen]; omega, ?_⟩
      rw [if_neg (by simp)]
      refine ⟨rfl, fun j e hj => ?_⟩
      have hjl : j < z := by
        simp only [cget] at hj
        have := (List.getElem?_eq_some_iff.1 hj).1; omega
      obtain ⟨v, v1, v2, v3⟩ := hread.2 j e hj
      simp only [cget] at hj
      refine ⟨v, ?_, v2, Ziy (fun r hr => ZA hr) (fun h0 => hoff0 (ZgO hj h0)) ?_ v3⟩
      · simp only
        rw [hcell j hjl]
        rw [h4, h5] at v1
        exact v1
      · have hn : noFL l = true := by have := hpl0.2; simpa [noF] using this
        exact Zc3 hn j e hj
    have hhm := hh.heap
    rw [hm] at hhm
    have hR := hhm.root hh.F (fun j row hj => by
      have hj' : (mh m)[j + 1]? = some row := by rw [hm]; simpa using hj
      exact ⟨hh.rest j row hj', (hh.plain _ row hj').2, hh.off hz _ row hj'⟩) hRoot (fun j J hj hJ => hb _ (hown j J (.inl hj) hJ)) hlt hf hs
    rw [← hm] at hR
    refine ⟨hR, hh.F, hh.plain, hh.off, fun j row J q1 q2 q3 => ?_, fun h => absurd h hz, fun _ => ⟨_, l, h1, h2, ZJ _ _ _, rfl, rfl⟩, hh.rest⟩
    by_cases e : j = 0
    · subst e; rw [h1] at q1; cases q1; cases q2
    · rw [ZA e] at q3
      exact ht _ (hh.tag j row J q1 q2 q3)
end
end Go.Sx
