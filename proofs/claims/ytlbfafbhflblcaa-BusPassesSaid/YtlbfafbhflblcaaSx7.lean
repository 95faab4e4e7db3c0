/-
  What is read of a list whose elements have heaps of their own; a call upon an element. Conditions: none.
-/
import Derived.Test.YtlbfafbhflblcaaSx6
namespace Go.Sx
open Go
set_option linter.unusedVariables false
set_option linter.unusedSimpArgs false
mutual
theorem Zkk {σ : Nat → Option Nat} : ∀ (e : EV), (∀ r ∈ ptrs e, σ r = some r) → ren σ e = e
  | .unk, _ => rfl
  | .bool _, _ => rfl
  | .int _ _, _ => rfl
  | .str _, _ => rfl
  | .nilp, _ => rfl
  | .ptr r o, h => by simp only [ren]; rw [h r (by simp [ptrs])]
  | .nils, _ => rfl
  | .slice r o n z, h => by simp only [ren]; rw [h r (by simp [ptrs])]
  | .ints _ _, _ => rfl
  | .mix _ _, _ => rfl
  | .nest _ _, _ => rfl
  | .ro _ _ _, _ => rfl
  | .rp _ _, _ => rfl
  | .agg l, h => by simp only [ren]; rw [ZeE l (by simpa [ptrs] using h)]
  | .tup l, h => by simp only [ren]; rw [ZeE l (by simpa [ptrs] using h)]
  | .fn f a b, h => by
    simp only [ptrs, List.mem_append] at h
    simp only [ren]
    rw [ZeE a fun r hr => h r (.inl hr), ZeE b fun r hr => h r (.inr hr)]
  | .nilf, _ => rfl
  | .tree _ _, _ => rfl
  | .tp r i, h => by simp only [ren]; rw [h r (by simp [ptrs])]
theorem ZeE {σ : Nat → Option Nat} : ∀ (l : List EV), (∀ r ∈ ZI l, σ r = some r) → renL σ l = l
  | [], _ => rfl
  | e :: l, h => by
    simp only [ZI, List.mem_append] at h
    simp only [renL]
    rw [Zkk e fun r hr => h r (.inl hr), ZeE l fun r hr => h r (.inr hr)]
end
mutual
theorem Zix (σ : Nat → Option Nat) : ∀ (e : EV), ptrs e = [] → ren σ e = e
  | .unk, _ => rfl
  | .bool _, _ => rfl
  | .int _ _, _ => rfl
  | .str _, _ => rfl
  | .nilp, _ => rfl
  | .ptr r o, h => by simp [ptrs] at h
  | .nils, _ => rfl
  | .slice r o n z, h => by simp [ptrs] at h
  | .ints _ _, _ => rfl
  | .mix _ _, _ => rfl
  | .nest _ _, _ => rfl
  | .ro _ _ _, _ => rfl
  | .rp _ _, _ => rfl
  | .agg l, h => by simp only [ren]; rw [Zbv σ l (by simpa [ptrs] using h)]
  | .tup l, h => by simp only [ren]; rw [Zbv σ l (by simpa [ptrs] using h)]
  | .fn f a b, h => by
    simp only [ptrs, List.append_eq_nil_iff] at h
    simp only [ren]
    rw [Zbv σ a h.1, Zbv σ b h.2]
  | .nilf, _ => rfl
  | .tree _ _, _ => rfl
  | .tp r i, h => by simp [ptrs] at h
theorem Zbv (σ : Nat → Option Nat) : ∀ (l : List EV), ZI l = [] → renL σ l = l
  | [], _ => rfl
  | e :: l, h => by
    simp only [ZI, List.append_eq_nil_iff] at h
    simp only [renL]
    rw [Zix σ e h.1, Zbv σ l h.2]
end
theorem ZlN {ρ ρ' : RM} {e : EV} {v : Value} (hp : ptrs e = []) (hn : noF e = true) (hv : VR ρ e v) : VR ρ' e v := by
  have := Zfo (ρ := ρ) (ρ' := ρ') (σ := fun _ => none) (fun r s l h => by cases h) e v hn hv
  rwa [Zix _ e hp] at this
theorem Zkl {ρ ρ' : RM} {l : List EV} {vs : List Value} (hp : ZI l = []) (hn : noFL l = true) (hv : VRs ρ l vs) : VRs ρ' l vs := by
  have := Zds (ρ := ρ) (ρ' := ρ') (σ := fun _ => none) (fun r s l h => by cases h) l vs hn hv
  rwa [Zbv _ l hp] at this
theorem ZaB {z : Nat} {m : List (Bool × EV)} (h : ZbU z m = true) : ∃ o c r, m = (o, c) :: r ∧ (z = 0 → o = true) ∧ (z ≠ 0 → o = false ∧ ∃ l, c = .agg l ∧ l.length = z) ∧ (∀ p ∈ r, p.1 = true) ∧ (∀ p ∈ m, isAgg p.2 = true ∧ noF p.2 = true) ∧ (z ≠ 0 → ∀ p ∈ m, 0 ∉ ptrs p.2) := by
  unfold ZbU at h
  split at h
  · rename_i o c r
    simp only [Bool.and_eq_true, List.all_eq_true] at h
    obtain ⟨⟨h1, h2⟩, h3⟩ := h
    refine ⟨o, c, r, rfl, fun hz => ?_, fun hz => ?_, h2, fun p hp => (h3 p hp).1, fun hz p hp => ?_⟩
    · subst hz
      simp only [Bool.and_eq_true] at h1
      exact h1.1
    · split at h1
      · exact absurd rfl hz
      · simp only [Bool.and_eq_true, Bool.not_eq_true'] at h1
        obtain ⟨h4, h5⟩ := h1
        split at h5
        · rename_i l
          exact ⟨h4, l, rfl, by simpa using h5⟩
        · cases h5
    · have := (h3 p hp).2
      simpa [hz] using this
  · cases h
theorem Zmu {m : List (Bool × EV)} {j : Nat} {row : Row} (h : (mh m)[j]? = some row) : ∃ p ∈ m, row = ⟨p.1, p.2⟩ := by
  rw [Zmt, Option.map_eq_some_iff] at h
  obtain ⟨p, hp, rfl⟩ := h
  exact ⟨p, List.mem_of_getElem? hp, rfl⟩
theorem ZaR {z : Nat} {m : List (Bool × EV)} (h : ZbU z m = true) {j : Nat} {row : Row} (hr : (mh m)[j]? = some row) : Zit row ∧ isAgg row.c = true := by
  obtain ⟨_, _, _, _, _, _, _, h2, _⟩ := ZaB h
  obtain ⟨p, hp, rfl⟩ := Zmu hr
  exact ⟨⟨Z9 (h2 p hp).1, (h2 p hp).2⟩, (h2 p hp).1⟩
theorem Zcl {z : Nat} {m : List (Bool × EV)} (h : ZbU z m = true) (hz : z ≠ 0) {j : Nat} {row : Row} (hr : (mh m)[j]? = some row) : 0 ∉ ptrs row.c := by
  obtain ⟨_, _, _, _, _, _, _, _, h2⟩ := ZaB h
  obtain ⟨p, hp, rfl⟩ := Zmu hr
  exact h2 hz p hp
theorem ZbJ {z : Nat} {m : List (Bool × EV)} (h : ZbU z m = true) {j : Nat} {row : Row} (hr : (mh m)[j + 1]? = some row) : row.own = true := by
  obtain ⟨o, c, r, rfl, _, _, h2, _, _⟩ := ZaB h
  rw [Zmt, List.getElem?_cons_succ, Option.map_eq_some_iff] at hr
  obtain ⟨p, hp, rfl⟩ := hr
  exact h2 p (List.mem_of_getElem? hp)
section
variable {P : Program} {call : ZS} {a : Act} {w w0 : World} {S : List Nat} {σ : Nat → EV} {ρ : RM} {h : List Row} {n : Nat}
theorem Zjm {o : Oper} {t : TypeId} {x : Operand} (ho : o.op = .load t x) {sh : Option Nat} (hs : ZbY P t = some sh) {x' : Opd} (hx : cOpd x = some x') (hσ : ∀ t, VR ρ (σ t) (a.tmps.getD t undef)) (hT : HRT w0 S ρ h w)
    {e : Eff} (he : evOp call n (.loadT sh x') σ h = some e) : ZgK P o a w0 S ρ h w e := by
  have hord : evOp call n (.load sh x') σ h = some e → ZgK P o a w0 S ρ h w e := fun h0 => by
    have hg := ZgJ (o := .load sh x') rfl h0
    exact Zc9 hT hσ (by rw [hg.1, List.append_nil]; exact hg.2) fun S' ρ' hR hσ' => ZgE ho hs hx hσ' hR h0
  have h1 := ZN hσ hx
  simp only [evOp] at he
  split at he
  · rename_i r off hr
    split at he
    · rename_i row hrow
      split at he
      · rename_i z els hc
        rw [hr] at h1
        obtain ⟨hh, μ, tg, ht⟩ := hT
        have hrow2 : row = ⟨false, .tree z els⟩ := by
          have := ht.ro r row hrow (by rw [hc]; rfl)
          obtain ⟨q, c⟩ := row
          simp only at this hc
          rw [this, hc]
        rw [hrow2] at hrow
        obtain ⟨L, hL, hb, htg, _, hlink, hfr⟩ := ht.list r z els hrow
        have hp := Zey h1 hL
        rw [hb, Nat.zero_add] at hp
        simp only [Option.map_eq_some_iff] at he
        obtain ⟨v, hv, rfl⟩ := he
        unfold ZfF at hv
        cases sh with
        | none =>
          simp only at hv
          split at hv
          · rename_i hz
            simp only [Option.some.injEq] at hv
            subst hv
            have hu := hlink hz.1 off hz.2
            intro K Q hK
            have hrun : (execOp a.eval o).run P w = .ok (.value (.pointer (some ⟨L.sub off, 0, none⟩))) w := by
              simp [execOp, ho, hp, Instr.loadAt, Instr.sureAddr, loadVar, ZaG (Zbu hs), run_load, hu]
            simp only [Oper.wp, hrun, Oper.upon_value]
            refine hK _ w ρ (le_refl _) ?_ (by simpa using ⟨hh, μ, tg, ht⟩)
            simp only [VR]
            exact ⟨_, rfl, some L, hL, fun L' e => by cases e; rfl⟩
          · cases hv
        | some m =>
          simp only at hv
          split at hv
          · rename_i hz
            obtain ⟨hz0, rfl, hz2⟩ := hz
            split at hv
            · rename_i q l rest hm
              simp only [Option.some.injEq] at hv
              subst hv
              have hf := hfr (off / m) _ hm
              obtain ⟨K, l', k1, k2, k3, k4, k5⟩ := hf.val (by omega)
              have hl' : l' = l := by simp [mh] at k1; exact k1.2.symm
              subst hl'
              have hKb : K.base = off := by rw [k4]; exact Nat.div_mul_cancel (Nat.dvd_of_mod_eq_zero hz2)
              obtain ⟨K', e1, hRow⟩ := hf.heap.live k1 rfl
              rw [k3] at e1; cases e1
              have hread := hRow.read
              obtain ⟨cs, c1, c2, c3, c4⟩ := ZaO (m := m) (o := 0) hread (y := ZcP l') (by simp only [csub]; rw [if_pos (by omega), List.drop_zero, List.take_of_length_le (by omega)])
              obtain ⟨ha, hsz⟩ := Zbt hs
              have hlc := run_loadCells_list (P := P) w ⟨L.block, off, none⟩ cs (fun j u hj => by rw [Zak]; have := c3 j u hj; rw [hKb, k5, Nat.add_zero] at this; exact this)
              rw [c1] at hlc
              intro K2 Q hK2
              have hrun : (execOp a.eval o).run P w = .ok (.value (.agg cs.toArray)) w := by
                simp [execOp, ho, hp, Instr.loadAt, Instr.sureAddr, loadVar, ZaN ha, Zav hsz, hlc]
              simp only [Oper.wp, hrun, Oper.upon_value]
              refine hK2 _ w ρ (le_refl _) ?_ (by simpa using ⟨hh, μ, tg, ht⟩)
              simp only [VR]
              refine ⟨cs, rfl, Zgv (by simp [c1]) fun j e hj => ?_, c2⟩
              have hjm : j < m := by simpa using (List.getElem?_eq_some_iff.1 hj).1
              rw [List.getElem?_map, List.getElem?_range hjm] at hj
              simp only [Option.map_some, Option.some.injEq] at hj
              subst hj
              obtain ⟨u, hu⟩ : ∃ u, cs[j]? = some u := ⟨cs[j]'(by omega), List.getElem?_eq_getElem (by omega)⟩
              refine ⟨u, hu, ?_⟩
              unfold ZlB
              split
              · rename_i k q hq
                obtain ⟨u', hu', hr'⟩ := c4 j _ (by rw [Zch]; exact hq)
                rw [hu] at hu'; cases hu'
                simpa only [VR] using hr'
              · simp only [VR]
            · cases hv
          · cases hv
      · refine hord ?_
        simp only [evOp]
        rw [hr]
        simp only [hrow]
        exact he
    · cases he
  · rename_i c off hr
    refine hord ?_
    simp only [evOp]
    rw [hr]
    exact he
  · cases he
end
end Go.Sx
