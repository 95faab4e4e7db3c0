/-
  Every operation that the abstract machine has: what it does is what the model does. Conditions: none.
-/
import Derived.Test.YtlbfafbhflblcaaSxK
namespace Go.Sx
open Go
set_option linter.unusedVariables false
section
variable {P : Program} {call : ZS} {a : Act} {w w0 : World} {S : List Nat} {σ : Nat → EV} {ρ : RM} {h : List Row} {n : Nat}
theorem ZgL {l : List Operand} {x' : Opd} (h : ZaZ l = some [x']) : ∃ x, l = [x] ∧ cOpd x = some x' := by
  cases l with
  | nil => simp [ZaZ] at h
  | cons x l =>
    simp only [ZaZ] at h
    split at h
    · rename_i a r h1 h2
      simp only [Option.some.injEq, List.cons.injEq] at h
      obtain ⟨rfl, rfl⟩ := h
      cases l with
      | nil => exact ⟨x, rfl, h1⟩
      | cons y l =>
        simp only [ZaZ] at h2
        split at h2 <;> simp at h2
    · simp at h
theorem ZeC {l : List Operand} {x' y' : Opd} (h : ZaZ l = some [x', y']) : ∃ x y, l = [x, y] ∧ cOpd x = some x' ∧ cOpd y = some y' := by
  cases l with
  | nil => simp [ZaZ] at h
  | cons x l =>
    simp only [ZaZ] at h
    split at h
    · rename_i a r h1 h2
      simp only [Option.some.injEq, List.cons.injEq] at h
      obtain ⟨rfl, rfl⟩ := h
      obtain ⟨y, rfl, hy⟩ := ZgL h2
      exact ⟨x, y, rfl, h1, hy⟩
    · simp at h
theorem ZmR {o : Oper} {c : Call} {so : SO} (ho : o.op = .call c) (hc : Zhp P c = some so) (hσ : ∀ t, VR ρ (σ t) (a.tmps.getD t undef)) (hh : HR w0 S ρ h w) (hcall : ZdE P call)
    (hcan : ∀ f args h r, call f args h = some r → Zl P f = true) {e : Eff} (he : evOp call n so σ h = some e) : Does P o a w0 S ρ h w e := by
  obtain ⟨callee, args, ats⟩ := c
  unfold Zhp at hc
  simp only at hc
  split at hc
  · simp at hc
  · rename_i xs' hxs
    split at hc
    · rename_i f
      split at hc
      · rename_i fn hfn
        split at hc
        · simp at hc
        · rename_i hcond
          simp only [Bool.or_eq_true, not_or, Bool.not_eq_true] at hcond
          split at hc
          · simp only [Option.some.injEq] at hc
            subst hc
            exact Zjc ho hfn hcond.1 hcond.2 hxs hσ hh hcall he
          · split at hc <;> simp only [Option.some.injEq] at hc <;> subst hc
            · exact Zjd ho hfn hcond.1 hcond.2 hxs hσ hh hcall he
            · exact Zkb ho hfn hcond.1 hcond.2 hxs hσ hh hcall he
      · simp at hc
    · rename_i g _
      simp only [Option.map_eq_some_iff] at hc
      obtain ⟨g', hg, rfl⟩ := hc
      exact Zje ho hg hxs hσ hh hcall hcan he
    · simp at hc
    · rename_i b
      split at hc
      · -- len
        rename_i x'
        obtain ⟨x, hx, hx'⟩ := ZgL hxs
        have hargs : args = #[x] := by apply Array.ext'; simpa using hx
        subst hargs
        cases hat : ats[0]? with
        | none => rw [hat] at hc; simp at hc
        | some t =>
          rw [hat] at hc
          simp only [Option.bind_some] at hc
          split at hc <;> (try (simp at hc; done)) <;> simp only [Option.some.injEq] at hc <;> subst hc
          · rename_i hu
            exact (Zet (k := .str) ho hat hu hx' he hσ).does hh
          · rename_i e' hu
            exact (Zet (k := .slice) ho hat ⟨e', hu⟩ hx' he hσ).does hh
          · rename_i m e' hu
            exact (Zet (k := .const m) ho hat ⟨e', hu⟩ hx' he hσ).does hh
      · -- append
        rename_i s' x'
        obtain ⟨s, x, hx, hs', hx'⟩ := ZeC hxs
        have hargs : args = #[s, x] := by apply Array.ext'; simpa using hx
        subst hargs
        split at hc
        · rename_i t t' hat
          have hats : ats = #[t, t'] := by apply Array.ext'; simpa using hat
          subst hats
          split at hc
          · rename_i htt
            subst htt
            split at hc
            · rename_i e' hu
              split at hc
              · rename_i i z hi hz
                split at hc
                · rename_i hcond
                  simp only [Bool.and_eq_true, decide_eq_true_eq, beq_iff_eq] at hcond
                  simp only [Option.some.injEq] at hc; subst hc
                  exact ZlJ ho hu hi hz hcond.2 hcond.1.1 hcond.1.2 hs' hx' hσ hh he
                · simp at hc
              · simp at hc
            · simp at hc
          · simp at hc
        · simp at hc
      · -- copy
        rename_i d' s'
        obtain ⟨d, s, hx, hd', hs'⟩ := ZeC hxs
        have hargs : args = #[d, s] := by apply Array.ext'; simpa using hx
        subst hargs
        split at hc
        · rename_i t t' hat
          have hats : ats = #[t, t'] := by apply Array.ext'; simpa using hat
          subst hats
          split at hc
          · rename_i e' e'' hu hu'
            split at hc
            · rename_i z hz
              simp only [Option.some.injEq] at hc; subst hc
              exact Zj8 ho hu hz hd' hs' hσ hh he (e'' := e'')
            · simp at hc
          · simp at hc
        · simp at hc
      · -- max
        simp only [Option.some.injEq] at hc; subst hc
        refine (Zii (m := true) (xs := args.toList) (ats := ats) ?_ hxs he hσ).does hh
        simpa using ho
      · -- min
        simp only [Option.some.injEq] at hc; subst hc
        refine (Zii (m := false) (xs := args.toList) (ats := ats) ?_ hxs he hσ).does hh
        simpa using ho
      · simp at hc
theorem ZmS {o : Oper} {so : SO} (hc : cOp0 P o.op = some so) (hσ : ∀ t, VR ρ (σ t) (a.tmps.getD t undef)) (hh : HR w0 S ρ h w) (hcall : ZdE P call)
    (hcan : ∀ f args h r, call f args h = some r → Zl P f = true) {e : Eff} (he : evOp call n so σ h = some e) : Does P o a w0 S ρ h w e := by
  cases ho : o.op <;> rw [ho] at hc <;> simp only [cOp0] at hc
  case move x =>
    simp only [Option.map_eq_some_iff] at hc
    obtain ⟨y, hy, rfl⟩ := hc
    exact (Zfh (.inl ho) hy he hσ).does hh
  case assign x =>
    simp only [Option.map_eq_some_iff] at hc
    obtain ⟨y, hy, rfl⟩ := hc
    exact (Zfh (.inr ho) hy he hσ).does hh
  case pick c x y =>
    split at hc
    · rename_i c' x' y' h1 h2 h3
      simp only [Option.some.injEq] at hc; subst hc
      exact (Zi2 ho h1 h2 h3 he hσ).does hh
    · simp at hc
  case alloc t =>
    simp only [Option.map_eq_some_iff] at hc
    obtain ⟨z, hz, rfl⟩ := hc
    exact Zi8 ho hz hh he
  case box t x =>
    simp only [Option.map_eq_some_iff] at hc
    obtain ⟨y, hy, rfl⟩ := hc
    exact ZlI ho hy hσ hh he
  case build t ps =>
    split at hc
    · rename_i z qs hz hq
      split at hc
      · rename_i hcond
        simp only [Bool.and_eq_true, beq_iff_eq] at hcond
        simp only [Option.some.injEq] at hc; subst hc
        exact (Zhw ho hz hcond.1.1 hq hcond.1.2 hcond.2 he hσ).does hh
      · simp at hc
    · simp at hc
  case buildSlice t m ps =>
    split at hc
    · rename_i e' qs hu hq
      split at hc
      · rename_i z v hz hv
        split at hc
        · rename_i hcond
          simp only [Bool.and_eq_true, decide_eq_true_eq, beq_iff_eq] at hcond
          split at hc
          · simp only [Option.some.injEq] at hc; subst hc
            exact ZgH ho hu hz hv hcond.2 hcond.1 hq hσ hh he
          · simp only [Option.some.injEq] at hc; subst hc
            exact Zex ho hu hz hv hcond.2 hcond.1 hq hσ hh he
        · simp at hc
      · simp at hc
    · simp at hc
  case load t x =>
    split at hc
    · rename_i sh x' hs hx
      simp only [Option.some.injEq] at hc; subst hc
      exact ZgE ho hs hx hσ hh he
    · simp at hc
  case store t p x =>
    split at hc
    · rename_i m p' x' hs hp hx
      simp only [Option.some.injEq] at hc; subst hc
      exact Zi9 ho hs hp hx hσ hh he
    · simp at hc
  case nilCheck x =>
    simp only [Option.map_eq_some_iff] at hc
    obtain ⟨y, hy, rfl⟩ := hc
    exact (Zht ho hy he hσ).does hh
  case binOp op t x y t' =>
    split at hc
    · rename_i ty x' y' hb hx hy
      simp only [Option.some.injEq] at hc; subst hc
      exact (Zj3 ho hb hx hy he hσ).does hh
    · simp at hc
  case unOp op t x =>
    simp only [Option.map_eq_some_iff] at hc
    obtain ⟨y, hy, rfl⟩ := hc
    exact (ZlF ho hy he hσ).does hh
  case convert s d x =>
    split at hc
    · rename_i ks k x' hs hd hx
      simp only [Option.some.injEq] at hc; subst hc
      exact (Zi3 ho hd hs hx he hσ).does hh
    · rename_i e' x' hs hd hx
      split at hc
      · rename_i h8
        simp only [Option.some.injEq] at hc; subst hc
        exact Zjb ho hs h8 hd hx hσ hh he
      · simp at hc
    · simp at hc
  case makeFunc fn x y =>
    cases fn <;> simp only at hc <;> (try (simp at hc; done))
    split at hc
    · rename_i x' y' hx hy
      split at hc
      · rename_i hlt
        simp only [Option.some.injEq] at hc; subst hc
        exact (Zi4 ho hx hy he hlt hσ).does hh
      · simp at hc
    · simp at hc
  case makeSlice t m c =>
    split at hc
    · rename_i e' m' c' hu hm hcc
      split at hc
      · rename_i i v hi hv
        split at hc
        · rename_i hcond
          simp only [Bool.and_eq_true, decide_eq_true_eq, beq_iff_eq] at hcond
          simp only [Option.some.injEq] at hc; subst hc
          exact ZgD ho hu hi hv hcond.2 hm hcc hσ hh he
        · simp at hc
      · simp at hc
    · simp at hc
  case slice t x lo hi mx =>
    split at hc
    · rename_i x' lo' hi' hu hx hlo hhi
      simp only [Option.some.injEq] at hc; subst hc
      exact (Zhv ho hu hx hlo hhi he hσ).does hh
    · rename_i e' x' lo' hi' hu hx hlo hhi
      simp only [Option.map_eq_some_iff] at hc
      obtain ⟨z, hz, rfl⟩ := hc
      exact (Zj4 ho hu hz hx hlo hhi he hσ).does hh
    · rename_i m e' x' lo' hi' hu hx hlo hhi
      simp only [Option.map_eq_some_iff] at hc
      obtain ⟨z, hz, rfl⟩ := hc
      exact (Zj5 ho hu hz hh hx hlo hhi he hσ).does hh
    · simp at hc
  case fieldAddr t x i =>
    split at hc
    · rename_i fs x' hu hx
      split at hc
      · rename_i f hf
        split at hc
        · rename_i k hk
          simp only [Option.some.injEq] at hc; subst hc
          exact (Zeu ho hu hf hk hx he hσ).does hh
        · simp at hc
      · simp at hc
    · simp at hc
  case field t x i =>
    split at hc
    · rename_i fs x' hu hx
      split at hc
      · rename_i f hf
        simp only [Option.map_eq_some_iff] at hc
        obtain ⟨sh, hs, rfl⟩ := hc
        exact (Zhu ho hu hf hs hx he hσ).does hh
      · simp at hc
    · simp at hc
  case indexAddr t x i =>
    split at hc
    · rename_i m e' x' i' hu hx hi
      simp only [Option.map_eq_some_iff] at hc
      obtain ⟨z, hz, rfl⟩ := hc
      exact (Zi5 ho hu hz hx hi he hσ).does hh
    · rename_i e' x' i' hu hx hi
      simp only [Option.map_eq_some_iff] at hc
      obtain ⟨z, hz, rfl⟩ := hc
      exact (Zi6 ho hu hz hx hi he hσ).does hh
    · simp at hc
  case index t x i =>
    split at hc
    · rename_i m e' x' i' hu hx hi
      split at hc
      · rename_i b z hb hz
        simp only [Option.some.injEq] at hc; subst hc
        exact (Zi7 ho hu hz hb hx hi he hσ).does hh
      · simp at hc
    · rename_i x' i' hu hx hi
      simp only [Option.some.injEq] at hc; subst hc
      exact (ZgA ho hu hx hi he hσ).does hh
    · simp at hc
  case extract x i =>
    simp only [Option.map_eq_some_iff] at hc
    obtain ⟨y, hy, rfl⟩ := hc
    exact (ZfN ho hy he hσ).does hh
  case call c => exact ZmR ho hc hσ hh hcall hcan he
  all_goals simp at hc
end
end Go.Sx
