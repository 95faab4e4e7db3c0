/-
  Operations, where there are lists whose elements have heaps of their own. Conditions: none.
-/
import Derived.Test.YtlbfafbhflblcaaSx5
import Derived.Test.YtlbfafbhflblcaaSxM
namespace Go.Sx
open Go
set_option linter.unusedVariables false
set_option linter.unusedSimpArgs false
section
variable {P : Program} {call : ZS} {a : Act} {w w0 : World} {S : List Nat} {σ : Nat → EV} {ρ : RM} {h : List Row} {n : Nat}
theorem Zc9 {o : Oper} {e : Eff} (hT : HRT w0 S ρ h w) (hσ : ∀ t, VR ρ (σ t) (a.tmps.getD t undef)) (hg : Good h (e.upd.foldl setRow h ++ e.news))
    (hd : ∀ (S' : List Nat) (ρ' : RM), HR w S' ρ' h w → (∀ t, VR ρ' (σ t) (a.tmps.getD t undef)) → Does P o a w S' ρ' h w e) : ZgK P o a w0 S ρ h w e := by
  have hb := hT.1.base (S' := ownL ρ h) fun i row L hi ho hL => Zd3.2 ⟨i, row, L, hi, ho, hL, rfl⟩
  intro K Q hK
  refine hd _ _ hb (fun t => Zcg (ρ := ρ) (ρ' := ⟨ρ.at_, ρ.F, fun b => ∃ o, ρ.F b = some o⟩) ⟨fun _ _ h => .inl h, Zae _⟩ _ _ (hσ t)) K Q fun v w' ρ' hl hv hR => ?_
  refine hK v w' ⟨ρ'.at_, ρ'.F, ρ.F0⟩ ⟨hl.1, hl.2.1, rfl⟩ (Zcg (ρ := ρ') (ρ' := ⟨ρ'.at_, ρ'.F, ρ.F0⟩) ⟨fun _ _ h => .inl h, Zae _⟩ _ _ hv) ?_
  exact hT.lift (fun b => Zd3) hR hl hg
def call0 (call : ZS) : ZS := fun f args h => match h with
  | [] => (match call f args [] with
    | some (r, rows', mv) => if rows'.all (fun row => !Zw row.c) = true then some (r, rows', mv) else none
    | none => none)
  | _ => none
theorem ZfY (hcall : ZaK P call) : ZdE P (call0 call) := by
  intro f args h r h' mv hc w S ρ vs hh hpos hargs
  unfold call0 at hc
  split at hc
  · split at hc
    · rename_i r' rows' mv' hc'
      split at hc
      · rename_i hall
        simp only [Option.some.injEq, Prod.mk.injEq] at hc
        obtain ⟨rfl, rfl, rfl⟩ := hc
        have hnt : ∀ (i : Nat) (row : Row), rows'[i]? = some row → Zw row.c = false := fun i row hi => by
          have := List.all_eq_true.1 hall row (List.mem_of_getElem? hi)
          simpa using this
        refine (hcall _ _ _ _ _ _ hc' w S ρ vs (HRT.no hh fun i row hi => by simp at hi) hpos hargs).mono fun e w' ⟨v, ρ', h1, h2, h3, h4, h5, h6, h7, h8, h9⟩ => ⟨v, ρ', h1, h2, h3.1, h4, h5, h6, h7, fun i row hi hr => ?_, h9⟩
        rcases h8 i row hi hr with h | h
        · exact h
        · rw [hnt i row hr] at h; cases h
      · cases hc
    · cases hc
  · cases hc
theorem ZhA {f : FuncId} {l : List Opd} {e : Eff} (he : evOp call n (.callP f l) σ h = some e) : evOp (call0 call) n (.callP f l) σ h = some e := by
  simp only [evOp] at he ⊢
  split at he
  · split at he
    · rename_i v hc
      simp only [call0, hc]
      exact he
    · cases he
  · cases he
theorem Ziw {c : EV} (h : noF c = true) : Zw c = false := by cases c <;> simp [noF] at h <;> rfl
theorem ZhB {f : FuncId} {bs : List BK} {l : List Opd} {e : Eff} (he : evOp call n (.callB f bs l) σ h = some e) : evOp (call0 call) n (.callB f bs l) σ h = some e ∧ e.upd = [] ∧ ∀ row ∈ e.news, row.own = true ∧ Zw row.c = false := by
  simp only [evOp, Zbz] at he ⊢
  split at he
  · cases he
  · split at he
    · split at he
      · rename_i r rows' hc
        split at he
        · rename_i hno
          simp only [Option.some.injEq] at he
          subst he
          have hno2 := hno
          simp only [Bool.and_eq_true, List.all_eq_true] at hno2
          have hall : (rows'.all fun row => !Zw row.c) = true := List.all_eq_true.2 fun row hr => by rw [Ziw (hno2.2 row hr).2]; rfl
          refine ⟨by simp only [call0, hc, hall, if_true]; rw [if_pos hno], rfl, fun row hr => ?_⟩
          simp only [List.mem_map] at hr
          obtain ⟨row', h1, rfl⟩ := hr
          exact ⟨(hno2.2 row' h1).1, (ZaL _ _).trans (Ziw (hno2.2 row' h1).2)⟩
        · cases he
      · cases he
    · cases he
theorem ZgN {h : List Row} {l : List Row} (hl : ∀ row ∈ l, row.own = true ∧ Zw row.c = false) : Good h (h ++ l) := by
  have hcls : ∀ (r : Nat) (row : Row), (h ++ l)[r]? = some row → h[r]? = some row ∨ row ∈ l := fun r row hr => by
    by_cases hlt : r < h.length
    · rw [List.getElem?_append_left hlt] at hr; exact .inl hr
    · rw [List.getElem?_append_right (by omega)] at hr; exact .inr (List.mem_of_getElem? hr)
  refine ⟨fun r row hr _ => ?_, fun r row hr ht => ?_, fun r row hr ht ho => ?_⟩
  · rw [List.getElem?_append_left (List.getElem?_eq_some_iff.1 hr).1]; exact hr
  · rcases hcls r row hr with h1 | h1
    · exact h1
    · rw [(hl row h1).2] at ht; cases ht
  · rcases hcls r row hr with h1 | h1
    · by_cases e : row.c = .unk
      · exact .inl e
      · exact .inr ⟨row, h1, ht, e⟩
    · rw [(hl row h1).1] at ho; cases ho
theorem HR.reindexN {w0 w : World} {S : List Nat} {ρ : RM} {h : List Row} (hh : HR w0 S ρ h w) {h2 : List Row} {src : Nat → Nat} {to : Nat → Option Nat}
    (h1 : ∀ j, j < h2.length → h2[j]? = some (Zr to (Zo h (src j)))) (hn : ∀ j, j < h2.length → noF (Zo h (src j)).c = true)
    (hto : ∀ i j, to i = some j → j < h2.length ∧ src j = i) (hinj : ∀ j k, j < h2.length → k < h2.length → src j = src k → j = k) :
    HR w0 S ⟨fun j => if j < h2.length then ρ (src j) else none, fun _ => none, fun _ => False⟩ h2 w := by
  have hσ : ∀ r s l, to r = some s → ρ r = some l → (RM.mk (fun j => if j < h2.length then ρ (src j) else none) (fun _ => none) fun _ => False) s = some l ∨ (RM.mk (fun j => if j < h2.length then ρ (src j) else none) (fun _ => none) fun _ => False) s = some none := by
    intro r s l hs hl
    obtain ⟨p, q⟩ := hto r s hs
    left
    simp only [p, if_true, q]
    exact hl
  have hrow : ∀ (j : Nat) (row : Row), h2[j]? = some row → j < h2.length ∧ row = Zr to (Zo h (src j)) := by
    intro j row hj
    have hlt : j < h2.length := (List.getElem?_eq_some_iff.1 hj).1
    rw [h1 j hlt] at hj
    exact ⟨hlt, by simpa using hj.symm⟩
  have hget : ∀ j (row : Row), Zo h (src j) = row → (h[src j]? = some row ∨ (h[src j]? = none ∧ row = ⟨false, .unk⟩)) := by
    intro j row hr
    unfold Zo at hr
    rw [List.getD_eq_getElem?_getD] at hr
    cases hx : h[src j]? with
    | none => rw [hx] at hr; exact .inr ⟨rfl, hr.symm⟩
    | some r => rw [hx] at hr; simp at hr; subst hr; exact .inl rfl
  refine ⟨fun j hj => ?_, fun j row hj => ?_, fun j K hK => ?_, fun j row K hj ho hK => ?_, fun j k row J K hj hne ho hJ hK => ?_, hh.frame, fun b o hb => (by cases hb), fun j row K hj ho hK => rfl, fun b o hb => (by cases hb)⟩
  · have : ¬ j < h2.length := by simpa using hj
    simp [this]
  · obtain ⟨hlt, rfl⟩ := hrow j row hj
    simp only [hlt, if_true]
    rcases hget j _ rfl with hx | ⟨hx, hr⟩
    · rcases hh.rows _ _ hx with ⟨c1, c2⟩ | ⟨L, c1, c2⟩
      · exact .inl ⟨by simp only [Zr, c1, ren], c2⟩
      · exact .inr ⟨L, c1, ZfU hσ (hn j hlt) c2⟩
    · rw [hr]
      exact .inl ⟨by simp [Zr, ren], by simpa [Zr] using hh.out _ hx⟩
  · by_cases hlt : j < h2.length
    · simp only [hlt, if_true] at hK; exact hh.lt _ K hK
    · simp [hlt] at hK
  · obtain ⟨hlt, rfl⟩ := hrow j row hj
    simp only [hlt, if_true] at hK
    rcases hget j _ rfl with hx | ⟨hx, hr⟩
    · exact hh.own _ _ K hx ho hK
    · rw [hh.out _ hx] at hK; cases hK
  · obtain ⟨hlt, rfl⟩ := hrow j row hj
    simp only [hlt, if_true] at hJ
    by_cases hlt' : k < h2.length
    · simp only [hlt', if_true] at hK
      rcases hget j _ rfl with hx | ⟨hx, hr⟩
      · exact hh.apart _ _ _ J K hx (fun e => hne (hinj j k hlt hlt' e)) ho hJ hK
      · rw [hh.out _ hx] at hJ; cases hJ
    · simp [hlt'] at hK
end
end Go.Sx
