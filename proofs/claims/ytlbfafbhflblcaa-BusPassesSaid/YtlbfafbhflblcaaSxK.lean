/-
  Rows under other numbers; calls. Conditions: none.
-/
import Derived.Test.YtlbfafbhflblcaaSxJ
namespace Go.Sx
open Go
set_option linter.unusedVariables false
theorem Zck (σ : Nat → Option Nat) : ∀ l, renL σ l = l.map (ren σ)
  | [] => by simp [renL]
  | e :: l => by simp [renL, Zck σ l]
theorem Zin (σ : Nat → Option Nat) (c : EV) : clen (ren σ c) = clen c := by
  cases c <;> simp only [ren] <;> (try split) <;> simp [clen, Zck]
theorem Zj9 (σ : Nat → Option Nat) (c : EV) (h : (isAgg c || Zw c) = true) : (isAgg (ren σ c) || Zw (ren σ c)) = true := by
  cases c <;> simp [isAgg, Zw] at h <;> simp [ren, isAgg, Zw]
theorem Zio (σ : Nat → Option Nat) (c : EV) (h : (isAgg c || Zw c) = true) (j : Nat) : cget (ren σ c) j = (cget c j).map (ren σ) := by
  cases c <;> simp [isAgg, Zw] at h
  · rename_i k l
    simp only [ren, cget, Option.map_map]
    congr 1
  · rename_i ks l
    simp only [ren, cget, Option.map_map]
    congr 1
    funext n
    show _ = ren σ ((Zad ks j).dec n)
    cases Zad ks j <;> simp [CK.dec, ren]
  · rename_i ks l
    simp only [ren, cget, Option.map_map]
    congr 1
    funext n
    show _ = ren σ ((Z8 ks j).dec n)
    cases Z8 ks j with
    | c k => cases k <;> simp [NK.dec, CK.dec, ren]
    | si k z => simp [NK.dec, ren]
    | sm k => simp [NK.dec, ren]
    | pt a z b =>
      simp only [NK.dec]
      split <;> simp [ren]
  · simp [ren, cget, Zck]
  · simp [ren, cget]
theorem Zmr {ρ ρ' : RM} {σ : Nat → Option Nat} (hσ : (∀ r s l, σ r = some s → ρ r = some l → ρ' s = some l ∨ ρ' s = some none) ∧ leF ρ.F ρ'.F) {c : EV} {get : Nat → Option Value} (hc : CR ρ c get) : CR ρ' (ren σ c) get := by
  refine ⟨Zj9 σ c hc.1, fun j e hj => ?_⟩
  rw [Zio σ c hc.1 j] at hj
  simp only [Option.map_eq_some_iff] at hj
  obtain ⟨e', he', rfl⟩ := hj
  obtain ⟨v, h1, h2, h3⟩ := hc.2 j e' he'
  exact ⟨v, h1, h2, Zgu hσ _ _ h3⟩
theorem ZfQ {ρ ρ' : RM} {σ : Nat → Option Nat} (hσ : (∀ r s l, σ r = some s → ρ r = some l → ρ' s = some l ∨ ρ' s = some none) ∧ leF ρ.F ρ'.F) {row : Row} {L : Loc} {w : World} (h : RowR ρ row L w) : RowR ρ' (Zr σ row) L w := by
  obtain ⟨hz, h⟩ := h
  refine ⟨by simpa [Zr, Zin] using hz, ?_⟩
  have hro : (Zr σ row).own = row.own := rfl
  rw [hro]
  split at h
  · rename_i ho
    obtain ⟨hb, c, t, hc, h2, hr⟩ := h
    rw [if_pos ho]
    exact ⟨hb, c, t, hc, h2, Zmr hσ hr⟩
  · rename_i ho
    rw [if_neg ho]
    exact Zmr hσ h
theorem HR.reindex {w0 w : World} {S : List Nat} {ρ : RM} {h : List Row} (hh : HR w0 S ρ h w) {h2 : List Row} {src : Nat → Nat} {to : Nat → Option Nat}
    (h1 : ∀ j, j < h2.length → h2[j]? = some (Zr to (Zo h (src j))))
    (hto : ∀ i j, to i = some j → j < h2.length ∧ src j = i) (hinj : ∀ j k, j < h2.length → k < h2.length → src j = src k → j = k) :
    ∃ ρ2 : RM, (∀ j, ρ2 j = if j < h2.length then ρ (src j) else none) ∧ HR w0 S ρ2 h2 w ∧ (∀ r s l, to r = some s → ρ r = some l → ρ2 s = some l ∨ ρ2 s = some none) ∧ leF ρ.F ρ2.F ∧ ρ2.F = ρ.F ∧ ρ2.F0 = ρ.F0 := by
  refine ⟨⟨fun j => if j < h2.length then ρ (src j) else none, ρ.F, ρ.F0⟩, fun _ => rfl, ?_, ?_, Zae _, rfl, rfl⟩
  · have hσ : (∀ r s l, to r = some s → ρ r = some l → (RM.mk (fun j => if j < h2.length then ρ (src j) else none) ρ.F ρ.F0) s = some l ∨ (RM.mk (fun j => if j < h2.length then ρ (src j) else none) ρ.F ρ.F0) s = some none) ∧ leF ρ.F (RM.mk (fun j => if j < h2.length then ρ (src j) else none) ρ.F ρ.F0).F := by
      refine ⟨?_, Zae _⟩
      intro r s l hs hl
      obtain ⟨p, q⟩ := hto r s hs
      left
      simp only [p, if_true, q]
      exact hl
    have hrow : ∀ (j : Nat) (row : Row), h2[j]? = some row → j < h2.length ∧ row = Zr to (Zo h (src j)) := by
      intro j row hj
      have hlt : j < h2.length := (List.getElem?_eq_some_iff.1 hj).1
      rw [h1 j hlt] at hj
      exact ⟨hlt, by simpa using hj.symm⟩
    have hget : ∀ j (row : Row), Zo h (src j) = row → (h[src j]? = some row ∨ (h[src j]? = none ∧ row = ⟨false, .unk⟩)) := by
      intro j row hr
      unfold Zo at hr
      rw [List.getD_eq_getElem?_getD] at hr
      cases hx : h[src j]? with
      | none => rw [hx] at hr; exact .inr ⟨rfl, hr.symm⟩
      | some r => rw [hx] at hr; simp at hr; subst hr; exact .inl rfl
    refine ⟨fun j hj => ?_, fun j row hj => ?_, fun j K hK => ?_, fun j row K hj ho hK => ?_, fun j k row J K hj hne ho hJ hK => ?_, hh.frame, hh.froz, fun j row K hj ho hK => ?_, hh.cold⟩
    · have : ¬ j < h2.length := by simpa using hj
      simp [this]
    · obtain ⟨hlt, rfl⟩ := hrow j row hj
      simp only [hlt, if_true]
      rcases hget j _ rfl with hx | ⟨hx, hr⟩
      · rcases hh.rows _ _ hx with ⟨c1, c2⟩ | ⟨L, c1, c2⟩
        · exact .inl ⟨by simp only [Zr, c1, ren], c2⟩
        · exact .inr ⟨L, c1, ZfQ hσ c2⟩
      · rw [hr]
        exact .inl ⟨by simp [Zr, ren], by simpa [Zr] using hh.out _ hx⟩
    · by_cases hlt : j < h2.length
      · simp only [hlt, if_true] at hK; exact hh.lt _ K hK
      · simp [hlt] at hK
    · obtain ⟨hlt, rfl⟩ := hrow j row hj
      simp only [hlt, if_true] at hK
      rcases hget j _ rfl with hx | ⟨hx, hr⟩
      · exact hh.own _ _ K hx ho hK
      · rw [hh.out _ hx] at hK; cases hK
    · obtain ⟨hlt, rfl⟩ := hrow j row hj
      simp only [hlt, if_true] at hJ
      by_cases hlt' : k < h2.length
      · simp only [hlt', if_true] at hK
        rcases hget j _ rfl with hx | ⟨hx, hr⟩
        · exact hh.apart _ _ _ J K hx (fun e => hne (hinj j k hlt hlt' e)) ho hJ hK
        · rw [hh.out _ hx] at hJ; cases hJ
      · simp [hlt'] at hK
    · obtain ⟨hlt, rfl⟩ := hrow j row hj
      simp only [hlt, if_true] at hK
      rcases hget j _ rfl with hx | ⟨hx, hr⟩
      · exact hh.ice _ _ K hx ho hK
      · rw [hh.out _ hx] at hK; cases hK
  · intro r s l hs hl
    obtain ⟨p, q⟩ := hto r s hs
    left
    simp only [p, if_true, q]
    exact hl
theorem Zay (h : List Row) : ∀ (n : Nat) (todo seen : List Nat), seen.Nodup → (Zaa h n todo seen).Nodup
  | 0, todo, seen, hs => by simpa [Zaa] using hs
  | n + 1, [], seen, hs => by simpa [Zaa] using hs
  | n + 1, i :: r, seen, hs => by
    simp only [Zaa]
    split
    · exact Zay h n r seen hs
    · rename_i hc
      refine Zay h n _ _ ?_
      rw [List.nodup_append]
      refine ⟨hs, by simp, fun a ha b hb => ?_⟩
      simp at hb
      subst hb
      rintro rfl
      exact hc (by simpa using ha)
def FnOk (P : Program) (f : FuncId) (args : List EV) (h : List Row) (r : EV) (h' : List Row) (mv : List Nat) : Prop :=
  ∀ (w : World) (S : List Nat) (ρ : RM) (vs : List Value), HR w S ρ h w → (∀ i, i < h.length → ρ i ≠ none) → VRs ρ args vs → Calls P f vs.toArray w fun e w' =>
    ∃ v ρ', e = .returned v ∧ VR ρ' r v ∧ HR w S ρ' h' w' ∧ h.length ≤ h'.length ∧ (∀ i, i < h.length → i ∉ mv → ρ' i = ρ i ∨ ρ' i = some none) ∧ mv.Nodup ∧ (∀ i ∈ mv, i < h.length) ∧
      (∀ (i : Nat) (row : Row), (h.length ≤ i ∨ i ∈ mv) → h'[i]? = some row → row.own = true) ∧ leF ρ.F ρ'.F ∧ ρ'.F0 = ρ.F0
def ZdE (P : Program) (call : ZS) : Prop := ∀ f args h r h' mv, call f args h = some (r, h', mv) → FnOk P f args h r h' mv
mutual
theorem ZfR {ρ ρ' : RM} (hF : subF ρ.F ρ'.F) : ∀ (e : EV) (v : Value), ptrs e = [] → VR ρ e v → VR ρ' e v
  | .unk, v, _, _ => by simp [VR]
  | .bool b, v, _, hv => by simpa [VR] using hv
  | .int k n, v, _, hv => by simpa [VR] using hv
  | .str s, v, _, hv => by simpa [VR] using hv
  | .nilp, v, _, hv => by simpa [VR] using hv
  | .ptr r o, v, h, hv => by simp [ptrs] at h
  | .nils, v, _, hv => by simpa [VR] using hv
  | .slice r o n z, v, h, hv => by simp [ptrs] at h
  | .ints k l, v, _, hv => by simpa [VR] using hv
  | .mix ks l, v, _, hv => by simpa [VR] using hv
  | .nest ks l, v, _, hv => by
    simp only [VR] at hv ⊢
    obtain ⟨cs, h1, h2⟩ := hv
    exact ⟨cs, h1, Zej hF h2⟩
  | .ro c n z, v, _, hv => by
    simp only [VR] at hv ⊢
    exact ZjP hF hv
  | .rp c o, v, _, hv => by
    simp only [VR] at hv ⊢
    exact ZjQ hF hv
  | .agg l, v, h, hv => by
    simp only [VR] at hv ⊢
    obtain ⟨cs, rfl, hl, hc⟩ := hv
    exact ⟨cs, rfl, ZbG hF l cs (by simpa [ptrs] using h) hl, hc⟩
  | .tup l, v, h, hv => by
    simp only [VR] at hv ⊢
    obtain ⟨cs, rfl, hl⟩ := hv
    exact ⟨cs, rfl, ZbG hF l cs (by simpa [ptrs] using h) hl⟩
  | .fn f a b, v, h, hv => by
    simp only [ptrs, List.append_eq_nil_iff] at h
    simp only [VR] at hv ⊢
    obtain ⟨x, y, rfl, hx, hy⟩ := hv
    exact ⟨x, y, rfl, ZbG hF a x h.1 hx, ZbG hF b y h.2 hy⟩
  | .nilf, v, _, hv => by simpa [VR] using hv
theorem ZbG {ρ ρ' : RM} (hF : subF ρ.F ρ'.F) : ∀ (l : List EV) (vs : List Value), ZI l = [] → VRs ρ l vs → VRs ρ' l vs
  | [], vs, _, hv => by simpa [VRs] using hv
  | e :: l, vs, h, hv => by
    simp only [ZI, List.append_eq_nil_iff] at h
    simp only [VRs] at hv ⊢
    obtain ⟨v, r, rfl, h1, h2⟩ := hv
    exact ⟨v, r, rfl, ZfR hF e v h.1 h1, ZbG hF l r h.2 h2⟩
end
theorem HR.grow {w0 w w' : World} {S : List Nat} {ρ : RM} {h : List Row} (hh : HR w0 S ρ h w) (hf : Fr w [] w') : HR w0 S ρ h w' := by
  refine ⟨hh.out, fun i r hi => (hh.rows i r hi).imp id fun ⟨L, h1, h2⟩ => ⟨L, h1, h2.same (hf.block _ (hh.lt i L h1) (by simp))⟩, fun i L hL => Nat.lt_of_lt_of_le (hh.lt i L hL) hf.size, hh.own, hh.apart, ?_, fun b o hb => (hf.block b (hh.froz_lt hb) (by simp)).trans (hh.froz b o hb), hh.ice, hh.cold⟩
  have f := hh.frame
  exact ⟨hf.os.trans f.os, hf.tape.trans f.tape, hf.output.trans f.output, Nat.le_trans f.size hf.size, fun b hb hn => (hf.block b (Nat.lt_of_lt_of_le hb f.size) (by simp)).trans (f.block b hb hn)⟩
theorem HR.more {w0 w w' : World} {S : List Nat} {ρ : RM} {h : List Row} (hh : HR w0 S ρ h w) (hf : Fr w [] w') {F : Nat → Option Obj} (h1 : leF ρ.F F) (h2 : ∀ b o, F b = some o → w'.heap[b]? = some o)
    (h3 : ∀ b o, F b = some o → (∃ o', ρ.F b = some o') ∨ w.heap.size ≤ b) : HR w0 S ⟨ρ.at_, F, ρ.F0⟩ h w' ∧ le ρ ⟨ρ.at_, F, ρ.F0⟩ := by
  have hg := hh.grow hf
  have hle : le ρ ⟨ρ.at_, F, ρ.F0⟩ := ⟨fun _ _ h => .inl h, h1, rfl⟩
  refine ⟨⟨hg.out, fun i r hi => (hg.rows i r hi).imp id fun ⟨L, a, b⟩ => ⟨L, a, b.mono hle⟩, hg.lt, hg.own, hg.apart, hg.frame, h2, fun i row L hi ho hL => ?_, fun b o hb => ?_⟩, hle⟩
  · have hi0 := hh.ice i row L hi ho hL
    have hlt := hh.lt i L hL
    cases hx : F L.block with
    | none => exact hx
    | some o =>
      rcases h3 _ _ hx with ⟨o', ho'⟩ | hn
      · rw [hi0] at ho'; cases ho'
      · omega
  · rcases h3 b o hb with ⟨o', ho'⟩ | hn
    · exact hh.cold b o' ho'
    · exact .inr (.inr (Nat.le_trans hh.frame.size hn))
section
variable {P : Program} {call : ZS} {a : Act} {w w0 : World} {S : List Nat} {σ : Nat → EV} {ρ : RM} {h : List Row} {n : Nat}
theorem Zc2 {o : Oper} {f : FuncId} {xs : Array Operand} {ats : Array TypeId} {fn : Func} (ho : o.op = .call { callee := .value (.func f), args := xs, argTypes := ats }) (hf : P.funcs[f]? = some fn) (hn : (fn.name == "runtime.NumGoroutine") = false) (hb : fn.body.isNone = false) (w : World) :
    (execOp a.eval o).run P w = .ok (.enter f (xs.map a.eval)) w := by
  have hb' : ∃ c, fn.body = some c := by cases h : fn.body with | none => simp [h] at hb | some c => exact ⟨c, rfl⟩
  obtain ⟨c, hc⟩ := hb'
  have hn' : ¬ fn.name = "runtime.NumGoroutine" := by simpa using hn
  simp [execOp, ho, resolve, Act.eval, Deferred.ofValue, invoke, callFunc, hf, hn', hc]
theorem Zjc {o : Oper} {f : FuncId} {xs : Array Operand} {ats : Array TypeId} {fn : Func} (ho : o.op = .call { callee := .value (.func f), args := xs, argTypes := ats }) (hf : P.funcs[f]? = some fn) (hn : (fn.name == "runtime.NumGoroutine") = false) (hb : fn.body.isNone = false)
    {xs' : List Opd} (hx : ZaZ xs.toList = some xs') (hσ : ∀ t, VR ρ (σ t) (a.tmps.getD t undef)) (hh : HR w0 S ρ h w) (hcall : ZdE P call) {e : Eff} (he : evOp call n (.callP f xs') σ h = some e) : Does P o a w0 S ρ h w e := by
  have h1 := Za6 hσ hx
  simp only [evOp] at he
  split at he
  · rename_i hnil
    split at he
    · rename_i v hv
      simp only [Option.some.injEq] at he; subst he
      have hfn := hcall _ _ _ _ _ _ hv w [] (RM.none ρ.F) (xs.toList.map a.eval) ⟨fun _ _ => rfl, fun i row hi => (by simp at hi), fun i L hL => (by cases hL), fun i row L hi => (by simp at hi), fun i j ri Li Lj hi => (by simp at hi), Fr.refl _ _, hh.froz, fun i row L hi => (by simp at hi), fun b o hb => .inl ⟨o, hb⟩⟩ (fun i hi => absurd hi (Nat.not_lt_zero i)) (ZbG (ρ := ρ) (ρ' := RM.none ρ.F) (fun _ _ h => h) _ _ hnil h1)
      intro K Q hK
      simp only [Oper.wp, Zc2 ho hf hn hb w, Oper.upon_enter]
      have hargs : (xs.toList.map a.eval).toArray = xs.map a.eval := by rw [← Array.toList_map, Array.toArray_toList]
      rw [← hargs]
      refine hfn.mono fun e w' ⟨u, ρ', he, hvr, hR, _, _, _, _, _, hF, hF0⟩ => ?_
      subst he
      have hρ : ∀ i, ρ' i = none := fun i => hR.out i rfl
      obtain ⟨m1, m2⟩ := hh.more hR.frame hF hR.froz (fun b o hb => by
        rcases hR.cold b o hb with h1 | h1 | h1
        · rw [hF0] at h1; exact .inl h1
        · simp at h1
        · exact .inr h1)
      exact hK u w' ⟨ρ.at_, ρ'.F, ρ.F0⟩ m2 (Zcg (ρ := ρ') (ρ' := ⟨ρ.at_, ρ'.F, ρ.F0⟩) ⟨fun r l hr => (by rw [hρ r] at hr; cases hr), Zae _⟩ _ _ hvr) (by simpa only [List.foldl_nil, List.append_nil] using m1)
    · simp at he
  · simp at he
theorem ZY : ∀ (l : List (Nat × Row)) (h : List Row), (l.foldl setRow h).length = h.length
  | [], h => rfl
  | p :: l, h => by simp only [List.foldl_cons]; rw [ZY l]; simp [setRow]
theorem Zab : ∀ (l : List (Nat × Row)) (h : List Row) (i : Nat), (∀ p ∈ l, p.1 ≠ i) → (l.foldl setRow h)[i]? = h[i]?
  | [], h, i, _ => rfl
  | p :: l, h, i, hp => by
    simp only [List.foldl_cons]
    rw [Zab l _ i (fun q hq => hp q (by simp [hq]))]
    simp only [setRow]
    rw [List.getElem?_set_ne (hp p (by simp))]
theorem ZaD : ∀ (l : List (Nat × Row)) (h : List Row) (i : Nat) (row : Row), (l.map (·.1)).Nodup → (i, row) ∈ l → i < h.length → (l.foldl setRow h)[i]? = some row
  | [], h, i, row, _, hm, _ => by cases hm
  | p :: l, h, i, row, hn, hm, hi => by
    simp only [List.map_cons, List.nodup_cons] at hn
    simp only [List.foldl_cons]
    rcases List.mem_cons.1 hm with rfl | hm
    · rw [Zab l _ i (fun q hq e => hn.1 (List.mem_map.2 ⟨q, hq, e⟩))]
      simp [setRow, hi]
    · exact ZaD l _ i row hn.2 hm (by simpa [setRow] using hi)
theorem ZO {l : List Nat} (hn : l.Nodup) {p : Nat} (hp : p < l.length) : l.idxOf (l.getD p 0) = p ∧ l.contains (l.getD p 0) = true ∧ l.getD p 0 ∈ l := by
  have hg : l.getD p 0 = l[p] := by simp [List.getD_eq_getElem?_getD, List.getElem?_eq_getElem hp]
  rw [hg]
  exact ⟨hn.idxOf_getElem p hp, by simp, List.getElem_mem hp⟩
theorem Zaw {l : List Nat} {i : Nat} (hi : i ∈ l) : l.idxOf i < l.length ∧ l.getD (l.idxOf i) 0 = i := by
  have h1 : l.idxOf i < l.length := List.idxOf_lt_length_of_mem hi
  refine ⟨h1, ?_⟩
  simp [List.getD_eq_getElem?_getD, List.getElem?_eq_getElem h1]
theorem ZlK {ids mv : List Nat} {L p p' i : Nat} (hn : ids.Nodup) (hlt : ∀ i ∈ ids, i < L) (h1 : ZR ids mv L p = some i) (h2 : ZR ids mv L p' = some i) : p = p' := by
  unfold ZR at h1 h2
  have key : ∀ p, p < ids.length → ids.getD p 0 < L := fun p hp => hlt _ (ZO hn hp).2.2
  have kmv : ∀ p, mv.contains p = true → mv.idxOf p < mv.length ∧ mv.getD (mv.idxOf p) 0 = p := fun p hp => Zaw (by simpa using hp)
  split at h1 <;> split at h2
  · rename_i hp hp'
    split at h1 <;> split at h2 <;> simp only [Option.some.injEq] at h1 h2
    · rename_i q q'
      have e : mv.idxOf p = mv.idxOf p' := by omega
      rw [← (kmv p q).2, ← (kmv p' q').2, e]
    · have := key p' hp'; omega
    · have := key p hp; omega
    · rw [← (ZO hn hp).1, ← (ZO hn hp').1, h1, h2]
  · rename_i hp hp'
    simp only [Option.some.injEq] at h2
    split at h1 <;> simp only [Option.some.injEq] at h1
    · rename_i q
      have := (kmv p q).1
      omega
    · have := key p hp; omega
  · rename_i hp hp'
    simp only [Option.some.injEq] at h1
    split at h2 <;> simp only [Option.some.injEq] at h2
    · rename_i q
      have := (kmv p' q).1
      omega
    · have := key p' hp'; omega
  · simp only [Option.some.injEq] at h1 h2
    omega
theorem Zka {o : Oper} {f : FuncId} {args : List EV} {vs : List Value} (hrun : (execOp a.eval o).run P w = .ok (.enter f vs.toArray) w) (hargs : VRs ρ args vs) (hh : HR w0 S ρ h w) (hcall : ZdE P call) {e : Eff} (he : Za3 call f args h = some e) : Does P o a w0 S ρ h w e := by
  unfold Za3 at he
  simp only at he
  generalize hids : Zaa h ZB (ZI args) [] = ids at he
  have hnd : ids.Nodup := by rw [← hids]; exact Zay h _ _ _ List.nodup_nil
  split at he
  · rename_i hall
    have hall' : ∀ i ∈ ids, i < h.length ∧ fresh h i = false := fun i hi => by simpa using List.all_eq_true.1 hall i hi
    have hlt : ∀ i ∈ ids, i < h.length := fun i hi => (hall' i hi).1
    split at he
    · simp at he
    · rename_i r rows' mv hc
      simp only [Option.some.injEq] at he
      subst he
      obtain ⟨ρ2a, hρ2, hR2a, hσ2a, hσ2b, hF2, hF02⟩ := hh.reindex (h2 := ids.map fun i => Zr (ZT ids) (Zo h i)) (src := fun j => ids.getD j 0) (to := ZT ids)
        (fun j hj => by
          simp only [List.length_map] at hj
          simp [List.getD_eq_getElem?_getD, List.getElem?_eq_getElem hj])
        (fun i j hij => by
          unfold ZT at hij
          split at hij
          · rename_i hi
            simp only [Option.some.injEq] at hij
            subst hij
            obtain ⟨p, q⟩ := Zaw (l := ids) (by simpa using hi)
            exact ⟨by simpa using p, q⟩
          · simp at hij)
        (fun j k hj hk hjk => by
          simp only [List.length_map] at hj hk
          have e1 := (ZO hnd hj).1
          have e2 := (ZO hnd hk).1
          rw [← e1, ← e2, hjk])
      have hR2 := hR2a.refz (F0 := fun b => ∃ o, ρ.F b = some o) (fun b o hb => .inl ⟨o, by rw [← hF2]; exact hb⟩)
      generalize hρ2e : RM.mk ρ2a.at_ ρ2a.F (fun b => ∃ o, ρ.F b = some o) = ρ2 at hR2
      have hat : ∀ j, ρ2 j = ρ2a j := fun j => by rw [← hρ2e]
      have hF2 : ρ2.F = ρ.F := by rw [← hρ2e]; exact hF2
      have hF02 : ρ2.F0 = fun b => ∃ o, ρ.F b = some o := by rw [← hρ2e]
      have hρ2 : ∀ j, ρ2 j = _ := fun j => (hat j).trans (hρ2 j)
      have hσ2 : (∀ r s l, ZT ids r = some s → ρ r = some l → ρ2 s = some l ∨ ρ2 s = some none) ∧ leF ρ.F ρ2.F := ⟨fun r s l h1 h2 => by rw [hat]; exact hσ2a r s l h1 h2, by rw [hF2]; exact Zae _⟩
      simp only [List.length_map] at hρ2
      let S' : List Nat := ids.filterMap fun i => match h[i]?, ρ i with
        | some row, some (some L) => if row.own then some L.block else none
        | _, _ => none
      have hS' : ∀ b, b ∈ S' ↔ ∃ (i : Nat) (row : Row) (L : Loc), i ∈ ids ∧ h[i]? = some row ∧ ρ i = some (some L) ∧ row.own = true ∧ L.block = b := by
        intro b
        simp only [S', List.mem_filterMap]
        constructor
        · rintro ⟨i, hi, hb⟩
          split at hb
          · rename_i row L h1 h2
            split at hb
            · simp only [Option.some.injEq] at hb
              exact ⟨i, row, L, hi, h1, h2, by assumption, hb⟩
            · simp at hb
          · simp at hb
        · rintro ⟨i, row, L, hi, h1, h2, h3, h4⟩
          exact ⟨i, hi, by simp [h1, h2, h3, h4]⟩
      have hmini : HR w S' ρ2 (ids.map fun i => Zr (ZT ids) (Zo h i)) w := by
        refine ⟨hR2.out, hR2.rows, hR2.lt, fun j row L hj ho hL => ?_, hR2.apart, Fr.refl _ _, hR2.froz, hR2.ice, fun b o hb => .inl (by rw [hF02]; exact ⟨o, by rw [← hF2]; exact hb⟩)⟩
        left
        have hjl : j < ids.length := by simpa using (List.getElem?_eq_some_iff.1 hj).1
        rw [hρ2 j, if_pos hjl] at hL
        have hgi : ∃ row', h[ids.getD j 0]? = some row' := by
          cases hx : h[ids.getD j 0]? with
          | none => rw [hh.out _ hx] at hL; cases hL
          | some row' => exact ⟨row', rfl⟩
        obtain ⟨row', hrow'⟩ := hgi
        have hrow : row = Zr (ZT ids) row' := by
          simp only [List.getElem?_map, List.getElem?_eq_getElem hjl, Option.map_some, Option.some.injEq] at hj
          rw [← hj]
          have hg : ids[j] = ids.getD j 0 := by simp [List.getD_eq_getElem?_getD, List.getElem?_eq_getElem hjl]
          rw [hg]
          unfold Zo
          rw [List.getD_eq_getElem?_getD, hrow']
          rfl
        exact (hS' _).2 ⟨_, row', L, (ZO hnd hjl).2.2, hrow', hL, by rw [hrow] at ho; exact ho, rfl⟩
      have hpos : ∀ p, p < (ids.map fun i => Zr (ZT ids) (Zo h i)).length → ρ2 p ≠ none := by
        intro p hp
        simp only [List.length_map] at hp
        rw [hρ2 p, if_pos hp]
        obtain ⟨q1, q2⟩ := hall' _ (ZO hnd hp).2.2
        have hrow := List.getElem?_eq_getElem q1
        rcases hh.rows _ _ hrow with ⟨h1, h2⟩ | ⟨L, h1, _⟩
        · rw [h2]
          split
          · simp
          · rename_i ho
            exfalso
            unfold fresh at q2
            rw [hrow] at q2
            generalize h[ids.getD p 0] = R at h1 ho q2
            obtain ⟨ow, cc⟩ := R
            simp only at h1 ho
            subst h1
            cases ow
            · simp at q2
            · exact ho rfl
        · rw [h1]; simp
      have hfn := hcall _ _ _ _ _ _ hc w S' ρ2 vs hmini hpos (ZcG hσ2 _ _ hargs)
      intro K Q hK
      simp only [Oper.wp, hrun, Oper.upon_enter]
      refine hfn.mono fun e' w' ⟨v, ρ', he', hvr, hR, hlen, hkeep, hmn, hml, hmo, hF, hF0⟩ => ?_
      subst he'
      simp only [List.length_map] at hlen hkeep hml hmo
      have hmap : ∀ p, p < ids.length → ρ2 p = ρ (ids.getD p 0) := fun p hp => by rw [hρ2 p, if_pos hp]
      let ρ3 : RM := ⟨fun i =>
        if i < h.length then (if ids.contains i then (if mv.contains (ids.idxOf i) then some none else ρ' (ids.idxOf i)) else ρ i)
        else if i < h.length + mv.length then ρ' (mv.getD (i - h.length) 0)
        else ρ' (ids.length + (i - (h.length + mv.length))), ρ'.F, ρ.F0⟩
      have hFF : leF ρ'.F ρ3.F := Zae _
      have hFe : ρ3.F = ρ'.F := rfl
      have hle : le ρ ρ3 := by
        refine ⟨fun i l hl => ?_, (by rw [← hF2]; exact hF), rfl⟩
        have hi : i < h.length := by
          rcases Nat.lt_or_ge i h.length with h1 | h1
          · exact h1
          · rw [hh.out i (List.getElem?_eq_none h1)] at hl; cases hl
        simp only [ρ3, hi, if_true]
        split
        · rename_i hci
          obtain ⟨p1, p2⟩ := Zaw (l := ids) (i := i) (by simpa using hci)
          split
          · exact .inr rfl
          · rename_i hmi
            rcases hkeep _ p1 (by simpa using hmi) with hk | hk
            · left
              rw [hk, hmap _ p1, p2]
              exact hl
            · exact .inr hk
        · exact .inl hl
      have hback : ∀ p s l, ZR ids mv h.length p = some s → ρ' p = some l → ρ3 s = some l ∨ ρ3 s = some none := by
        intro p s l hs hl
        left
        unfold ZR at hs
        split at hs
        · rename_i hp
          split at hs
          · rename_i hpm
            simp only [Option.some.injEq] at hs
            subst hs
            obtain ⟨p1, p2⟩ := Zaw (l := mv) (i := p) (by simpa using hpm)
            have h1 : ¬ (h.length + mv.idxOf p < h.length) := by omega
            have h2 : h.length + mv.idxOf p < h.length + mv.length := by omega
            simp only [ρ3, h1, if_false, h2, if_true, Nat.add_sub_cancel_left, p2]
            exact hl
          · rename_i hpm
            simp only [Option.some.injEq] at hs
            subst hs
            obtain ⟨q1, q2, q3⟩ := ZO hnd hp
            have hlt' := hlt _ q3
            simp only [ρ3, hlt', if_true, q2, q1]
            rw [if_neg hpm]
            exact hl
        · rename_i hp
          simp only [Option.some.injEq] at hs
          subst hs
          have h1 : ¬ (h.length + mv.length + (p - ids.length) < h.length) := by omega
          have h2 : ¬ (h.length + mv.length + (p - ids.length) < h.length + mv.length) := by omega
          have h3 : ids.length + (h.length + mv.length + (p - ids.length) - (h.length + mv.length)) = p := by omega
          simp only [ρ3, h1, if_false, h2, h3]
          exact hl
      refine hK v w' ρ3 hle (Zgu ⟨hback, hFF⟩ _ _ hvr) ?_
      generalize hupd : ((List.range ids.length).map fun p => (ids.getD p 0, if mv.contains p then (⟨true, .unk⟩ : Row) else Zr (ZR ids mv h.length) (Zo rows' p))) = upd
      have hkeys : upd.map (·.1) = ids := by
        rw [← hupd, List.map_map]
        refine List.ext_getElem (by simp) fun j h1 h2 => ?_
        simp [List.getD_eq_getElem?_getD, List.getElem?_eq_getElem h2]
      have hl3 : (upd.foldl setRow h).length = h.length := ZY _ _
      have hgr : ∀ p, p < rows'.length → rows'[p]? = some (Zo rows' p) := fun p hp => by simp [Zo, List.getD_eq_getElem?_getD, List.getElem?_eq_getElem hp]
      generalize hH3 : (upd.foldl setRow h ++ ((mv.map fun p => Zr (ZR ids mv h.length) (Zo rows' p)) ++ (rows'.drop ids.length).map (Zr (ZR ids mv h.length)))) = H3
      have hcls : ∀ i, (i < h.length ∧ i ∉ ids ∧ ρ3 i = ρ i ∧ H3[i]? = h[i]?) ∨ (ρ3 i = some none ∧ H3[i]? = some ⟨true, .unk⟩) ∨ ∃ p, ZR ids mv h.length p = some i ∧ ρ3 i = ρ' p ∧ H3[i]? = (rows'[p]?).map (Zr (ZR ids mv h.length)) := by
        intro i
        by_cases hi : i < h.length
        · have hH : H3[i]? = (upd.foldl setRow h)[i]? := by rw [← hH3, List.getElem?_append_left (by rw [hl3]; exact hi)]
          by_cases hci : i ∈ ids
          · obtain ⟨p1, p2⟩ := Zaw hci
            have hmem : (i, if mv.contains (ids.idxOf i) then (⟨true, .unk⟩ : Row) else Zr (ZR ids mv h.length) (Zo rows' (ids.idxOf i))) ∈ upd := by
              rw [← hupd]
              exact List.mem_map.2 ⟨ids.idxOf i, List.mem_range.2 p1, by rw [p2]⟩
            have hat := ZaD upd h i _ (by rw [hkeys]; exact hnd) hmem hi
            rw [← hH] at hat
            by_cases hm : mv.contains (ids.idxOf i) = true
            · right; left
              rw [if_pos hm] at hat
              refine ⟨?_, hat⟩
              simp only [ρ3, hi, if_true]
              rw [if_pos (by simpa using hci), if_pos hm]
            · right; right
              rw [if_neg hm] at hat
              refine ⟨ids.idxOf i, ?_, ?_, ?_⟩
              · unfold ZR; rw [if_pos p1, if_neg hm, p2]
              · simp only [ρ3, hi, if_true]
                rw [if_pos (by simpa using hci), if_neg hm]
              · rw [hat, hgr _ (by omega)]; rfl
          · left
            refine ⟨hi, hci, ?_, ?_⟩
            · simp only [ρ3, hi, if_true]
              rw [if_neg (by simpa using hci)]
            · rw [hH, Zab upd h i (fun q hq e => hci (by rw [← hkeys, ← e]; exact List.mem_map.2 ⟨q, hq, rfl⟩))]
        · right; right
          have hH : H3[i]? = ((mv.map fun p => Zr (ZR ids mv h.length) (Zo rows' p)) ++ (rows'.drop ids.length).map (Zr (ZR ids mv h.length)))[i - h.length]? := by
            rw [← hH3, List.getElem?_append_right (by rw [hl3]; omega), hl3]
          by_cases hi2 : i < h.length + mv.length
          · have hj : i - h.length < mv.length := by omega
            have hg : mv.getD (i - h.length) 0 = mv[i - h.length] := by simp [List.getD_eq_getElem?_getD, List.getElem?_eq_getElem hj]
            have hmem : mv.getD (i - h.length) 0 ∈ mv := by rw [hg]; exact List.getElem_mem hj
            refine ⟨mv.getD (i - h.length) 0, ?_, ?_, ?_⟩
            · unfold ZR
              rw [if_pos (hml _ hmem), if_pos (by simpa using hmem)]
              have := (ZO hmn hj).1
              rw [this]
              congr 1
              omega
            · simp only [ρ3, hi, if_false, hi2, if_true]
            · rw [hH, List.getElem?_append_left (by simpa using hj), List.getElem?_map, List.getElem?_eq_getElem hj, ← hg, hgr _ (Nat.lt_of_lt_of_le (hml _ hmem) hlen)]
              rfl
          · refine ⟨ids.length + (i - (h.length + mv.length)), ?_, ?_, ?_⟩
            · unfold ZR
              rw [if_neg (by omega)]
              congr 1
              omega
            · simp only [ρ3, hi, if_false, hi2]
            · rw [hH, List.getElem?_append_right (by simp; omega), List.getElem?_map, List.getElem?_drop]
              simp only [List.length_map]
              congr 2
              omega
      have hSb : ∀ b, b ∈ S' → b ∈ S ∨ w0.heap.size ≤ b := by
        intro b hb
        obtain ⟨i, row, L, _, h1, h2, h3, rfl⟩ := (hS' b).1 hb
        exact hh.own i row L h1 h3 h2
      have hsz0 := hh.frame.size
      have hout : ∀ i K, i < h.length → i ∉ ids → ρ i = some (some K) → K.block ∉ S' ∧ K.block < w.heap.size := by
        intro i K hi hni hK
        refine ⟨fun hb => ?_, hh.lt i K hK⟩
        obtain ⟨i', row, L, m1, m2, m3, m4, m5⟩ := (hS' _).1 hb
        exact hh.apart i' i row L K m2 (by rintro rfl; exact hni m1) m4 m3 hK m5
      have hmix : ∀ i p K J, i < h.length → i ∉ ids → ρ i = some (some K) → ρ' p = some (some J) → (∀ row, h[i]? = some row → row.own = true → K.block ≠ J.block) ∧ (∀ row, rows'[p]? = some row → row.own = true → J.block ≠ K.block) := by
        intro i p K J hi hni hK hJ
        obtain ⟨o1, o2⟩ := hout i K hi hni hK
        have hnew : ∀ row, rows'[p]? = some row → row.own = true → J.block ≠ K.block := by
          intro row hrow hown
          rcases hR.own p row J hrow hown hJ with hb | hb
          · rintro e; exact o1 (by rw [← e]; exact hb)
          · omega
        refine ⟨fun row hrow hown => ?_, hnew⟩
        by_cases hp : p < ids.length ∧ p ∉ mv
        · rcases hkeep p hp.1 hp.2 with hk | hk
          · rw [hk, hmap p hp.1] at hJ
            exact hh.apart i _ row K J hrow (by rintro rfl; exact hni (ZO hnd hp.1).2.2) hown hK hJ
          · rw [hk] at hJ; cases hJ
        · have hpl : ∃ row', rows'[p]? = some row' := by
            cases hx : rows'[p]? with
            | none => rw [hR.out p hx] at hJ; cases hJ
            | some row' => exact ⟨row', rfl⟩
          obtain ⟨row', hrow'⟩ := hpl
          exact (hnew row' hrow' (hmo p row' (by
            by_cases hp1 : p < ids.length
            · right; exact Decidable.byContradiction fun hn => hp ⟨hp1, hn⟩
            · left; omega) hrow')).symm
      have hfr : Fr w0 S w' := by
        have f := hh.frame
        have g := hR.frame
        refine ⟨g.os.trans f.os, g.tape.trans f.tape, g.output.trans f.output, Nat.le_trans f.size g.size, fun b hb hn => (g.block b (by omega) (fun hs => ?_)).trans (f.block b hb hn)⟩
        rcases hSb b hs with h1 | h1
        · exact hn h1
        · omega
      have hcal : ∀ (i p : Nat) (row : Row), H3[i]? = (rows'[p]?).map (Zr (ZR ids mv h.length)) → H3[i]? = some row → ∃ row', rows'[p]? = some row' ∧ row = Zr (ZR ids mv h.length) row' := by
        intro i p row h1 h2
        rw [h1] at h2
        simp only [Option.map_eq_some_iff] at h2
        obtain ⟨row', h3, h4⟩ := h2
        exact ⟨row', h3, h4.symm⟩
      refine ⟨fun i hi => ?_, fun i row hi => ?_, fun i K hK => ?_, fun i row K hi ho hK => ?_, fun i j row K J hi hne ho hK hJ => ?_, hfr, fun b o hb => hR.froz b o hb, fun i row K hi ho hK => ?_, fun b o hb => ?_⟩
      · rcases hcls i with ⟨c1, c2, c3, c4⟩ | ⟨c1, c2⟩ | ⟨p, c1, c2, c3⟩
        · rw [c3]; exact hh.out i (by rw [← c4]; exact hi)
        · rw [c2] at hi; cases hi
        · rw [c2]
          rw [c3] at hi
          exact hR.out p (by simpa using hi)
      · rcases hcls i with ⟨c1, c2, c3, c4⟩ | ⟨c1, c2⟩ | ⟨p, c1, c2, c3⟩
        · rw [c4] at hi
          rw [c3]
          rcases hh.rows i row hi with h1 | ⟨K, h1, h2⟩
          · exact .inl h1
          · obtain ⟨o1, o2⟩ := hout i K c1 c2 h1
            exact .inr ⟨K, h1, (h2.same (hR.frame.block _ o2 o1)).mono hle⟩
        · rw [c2] at hi
          cases hi
          exact .inl ⟨rfl, by rw [c1]; rfl⟩
        · obtain ⟨row', h1, rfl⟩ := hcal i p row c3 hi
          rw [c2]
          rcases hR.rows p row' h1 with ⟨h2, h3⟩ | ⟨K, h2, h3⟩
          · exact .inl ⟨by simp [Zr, h2, ren], h3⟩
          · exact .inr ⟨K, h2, ZfQ ⟨hback, hFF⟩ h3⟩
      · rcases hcls i with ⟨c1, c2, c3, c4⟩ | ⟨c1, c2⟩ | ⟨p, c1, c2, c3⟩
        · rw [c3] at hK; exact Nat.lt_of_lt_of_le (hh.lt i K hK) hR.frame.size
        · rw [c1] at hK; cases hK
        · rw [c2] at hK; exact hR.lt p K hK
      · rcases hcls i with ⟨c1, c2, c3, c4⟩ | ⟨c1, c2⟩ | ⟨p, c1, c2, c3⟩
        · rw [c3] at hK; rw [c4] at hi; exact hh.own i row K hi ho hK
        · rw [c1] at hK; cases hK
        · obtain ⟨row', h1, rfl⟩ := hcal i p row c3 hi
          rw [c2] at hK
          rcases hR.own p row' K h1 ho hK with h2 | h2
          · exact hSb _ h2
          · right; omega
      · rcases hcls i with ⟨c1, c2, c3, c4⟩ | ⟨c1, c2⟩ | ⟨p, c1, c2, c3⟩
        · rw [c3] at hK
          rw [c4] at hi
          rcases hcls j with ⟨d1, d2, d3, d4⟩ | ⟨d1, d2⟩ | ⟨p', d1, d2, d3⟩
          · rw [d3] at hJ; exact hh.apart i j row K J hi hne ho hK hJ
          · rw [d1] at hJ; cases hJ
          · rw [d2] at hJ
            exact (hmix i p' K J c1 c2 hK hJ).1 row hi ho
        · rw [c1] at hK; cases hK
        · obtain ⟨row', h1, rfl⟩ := hcal i p row c3 hi
          rw [c2] at hK
          rcases hcls j with ⟨d1, d2, d3, d4⟩ | ⟨d1, d2⟩ | ⟨p', d1, d2, d3⟩
          · rw [d3] at hJ
            exact (hmix j p J K d1 d2 hJ hK).2 row' h1 ho
          · rw [d1] at hJ; cases hJ
          · rw [d2] at hJ
            refine hR.apart p p' row' K J h1 (fun e => hne ?_) ho hK hJ
            subst e
            rw [c1] at d1
            cases d1
            rfl
      · rcases hcls i with ⟨c1, c2, c3, c4⟩ | ⟨c1, c2⟩ | ⟨p, c1, c2, c3⟩
        · rw [c3] at hK; rw [c4] at hi
          have h0 := hh.ice i row K hi ho hK
          obtain ⟨o1, o2⟩ := hout i K c1 c2 hK
          show ρ'.F K.block = none
          cases hx : ρ'.F K.block with
          | none => rfl
          | some ob =>
            rcases hR.cold _ _ hx with h1 | h1 | h1
            · rw [hF0, hF02] at h1
              obtain ⟨o', h1⟩ := h1
              rw [h0] at h1; cases h1
            · exact absurd h1 o1
            · omega
        · rw [c1] at hK; cases hK
        · obtain ⟨row', h1, rfl⟩ := hcal i p row c3 hi
          rw [c2] at hK
          exact hR.ice p row' K h1 ho hK
      · rcases hR.cold b o hb with h1 | h1 | h1
        · rw [hF0, hF02] at h1
          obtain ⟨o', h1⟩ := h1
          exact hh.cold b o' h1
        · exact .inr (hSb b h1)
        · exact .inr (.inr (Nat.le_trans hh.frame.size h1))
  · simp at he
theorem Zkb {o : Oper} {f : FuncId} {xs : Array Operand} {ats : Array TypeId} {fn : Func} (ho : o.op = .call { callee := .value (.func f), args := xs, argTypes := ats }) (hf : P.funcs[f]? = some fn) (hn : (fn.name == "runtime.NumGoroutine") = false) (hb : fn.body.isNone = false)
    {xs' : List Opd} (hx : ZaZ xs.toList = some xs') (hσ : ∀ t, VR ρ (σ t) (a.tmps.getD t undef)) (hh : HR w0 S ρ h w) (hcall : ZdE P call) {e : Eff} (he : evOp call n (.call f xs') σ h = some e) : Does P o a w0 S ρ h w e := by
  have hargs : (xs.toList.map a.eval).toArray = xs.map a.eval := by rw [← Array.toList_map, Array.toArray_toList]
  exact Zka (vs := xs.toList.map a.eval) (by rw [hargs]; exact Zc2 ho hf hn hb w) (Za6 hσ hx) hh hcall he
def ZfS (w : World) : Nat → Option Obj := fun b => w.heap[b]?
theorem Zhx (w : World) (b j : Nat) : fcell (ZfS w) b j = w.cell? ⟨b, j, none⟩ := by
  unfold fcell World.cell? ZfS
  cases w.heap[b]? with
  | none => rfl
  | some o => cases o <;> rfl
theorem Zbh {z n : Nat} (hz : 0 < z) {x : List Int} (h : x.length = n * z) : many z x = n := by
  unfold many
  split
  · omega
  · rw [h]; exact Nat.mul_div_cancel _ hz
theorem ZlL (z : Nat) : many z [] = 0 := by
  unfold many
  split
  · rfl
  · simp
theorem Zip {F : Nat → Option Obj} {w : World} {b j : Nat} (h : F b = w.heap[b]?) : fcell F b j = w.cell? ⟨b, j, none⟩ := by
  rw [← Zhx]
  unfold fcell ZfS
  rw [h]
theorem ZmN {a b : Nat} {l : List NC} (hl : l.length = a + 1 + b) {j : Nat} {x : NC} (hx : (ptL a b (ptE a b l))[j]? = some x) : ∃ y, l[j]? = some y ∧ (j ≠ a → x.i = y.i) ∧ (j = a → x.l = y.l) := by
  have h1 : ((l.take a).map NC.i).length = a := by rw [List.length_map, List.length_take]; omega
  have h2 : (((l.drop (a + 1)).take b).map NC.i).length = b := by rw [List.length_map, List.length_take, List.length_drop]; omega
  have t1 : (ptE a b l).take a = (l.take a).map NC.i := by unfold ptE; rw [List.take_left' h1]
  have t2 : (ptE a b l).drop a = ((l.drop (a + 1)).take b).map NC.i ++ (l.getD a ⟨0, []⟩).l := by unfold ptE; rw [List.drop_left' h1]
  have t3 : ((ptE a b l).drop a).take b = ((l.drop (a + 1)).take b).map NC.i := by rw [t2, List.take_left' h2]
  have t4 : (ptE a b l).drop (a + b) = (l.getD a ⟨0, []⟩).l := by rw [← List.drop_drop, t2, List.drop_left' h2]
  unfold ptL at hx
  rw [t1, t3, t4] at hx
  by_cases c1 : j < a
  · rw [List.getElem?_append_left (by rw [List.length_map, h1]; exact c1)] at hx
    simp only [List.getElem?_map, List.getElem?_take_of_lt c1, Option.map_map, Option.map_eq_some_iff] at hx
    obtain ⟨y, hy, rfl⟩ := hx
    exact ⟨y, hy, fun _ => rfl, fun e => by omega⟩
  · rw [List.getElem?_append_right (by rw [List.length_map, h1]; omega), List.length_map, h1] at hx
    by_cases c2 : j = a
    · subst c2
      rw [Nat.sub_self, List.getElem?_cons_zero] at hx
      cases hx
      exact ⟨l.getD j ⟨0, []⟩, Zbr (by omega), fun e => absurd rfl e, fun _ => rfl⟩
    · obtain ⟨d, hd⟩ : ∃ d, j - a = d + 1 := ⟨j - a - 1, by omega⟩
      rw [hd, List.getElem?_cons_succ] at hx
      simp only [List.getElem?_map, Option.map_map, Option.map_eq_some_iff] at hx
      obtain ⟨y, hy, rfl⟩ := hx
      have hy := Zcf hy
      rw [List.getElem?_drop, show a + 1 + d = j by omega] at hy
      exact ⟨y, hy, fun _ => rfl, fun e => absurd e c2⟩
theorem Zms {a z b j : Nat} : (j = a → Z8 (ptK a z b) j = .si .i64 z) ∧ (j < a + 1 + b → j ≠ a → Z8 (ptK a z b) j = .c (.int .i64)) := by
  have hl : (ptK a z b).length = a + (b + 1) := by simp [ptK]
  constructor
  · rintro rfl
    rw [Zci (by omega), List.getD_eq_getElem?_getD]
    unfold ptK
    rw [List.getElem?_append_right (by simp), List.length_replicate, Nat.sub_self]
    rfl
  · intro h1 h2
    rw [Zci (by omega), List.getD_eq_getElem?_getD]
    unfold ptK
    by_cases h3 : j < a
    · rw [List.getElem?_append_left (by simpa using h3), List.getElem?_replicate, if_pos h3]
      rfl
    · rw [List.getElem?_append_right (by simp; omega), List.length_replicate]
      obtain ⟨d, hd⟩ : ∃ d, j - a = d + 1 := ⟨j - a - 1, by omega⟩
      rw [hd, List.getElem?_cons_succ, List.getElem?_replicate, if_pos (by omega)]
      rfl
theorem ZmO {F : Nat → Option Obj} {a z b j : Nat} {x y : NC} {v : Value} (hi : j ≠ a → x.i = y.i) (hl : j = a → x.l = y.l) (hj : j < a + 1 + b) (h : (Z8 (ptK a z b) j).is0 F y v) : (Z8 (ptK a z b) j).is0 F x v := by
  by_cases e : j = a
  · rw [Zms.1 e] at h ⊢
    simpa only [NK.is0, hl e] using h
  · rw [Zms.2 hj e] at h ⊢
    simpa only [NK.is0, hi e] using h
theorem ZgF {F : Nat → Option Obj} (hh : HR w0 S ρ h w) {k : NK} {v : EV} {x : NC} {u : Value} (hsub : subF ρ.F F) (hat : ∀ r ∈ ptrs v, ∀ L, ρ r = some (some L) → F L.block = w.heap[L.block]?) (hb : Zee h k v = some x) (hv : VR ρ v u) : k.is F x u := by
  unfold Zee at hb
  split at hb
  · split at hb
    · rename_i e
      subst e
      cases hb
      simp only [VR] at hv
      exact .inr hv
    · cases hb
  · cases hb
    simp only [VR] at hv
    rename_i b
    exact .inr (by rw [hv]; cases b <;> rfl)
  · cases hb
    simp only [VR] at hv
    exact .inl ⟨⟨none, hv⟩, ZlL _⟩
  · rename_i k z r o n z'
    split at hb
    · rename_i hz
      obtain ⟨rfl, hz⟩ := hz
      split at hb
      · rename_i row hrow
        split at hb
        · rename_i k' l hc
          split at hb
          · rename_i e
            subst e
            split at hb
            · rename_i hle
              cases hb
              simp only [VR] at hv
              obtain ⟨a0, cap, rfl, hn, q, hq, ha⟩ := hv
              obtain ⟨L, hL, hR⟩ := hh.live hrow (by rw [hc]; rfl)
              rw [hL] at hq
              obtain ⟨ha, hroom⟩ := ha L (by simpa using hq.symm)
              have hlen : ((l.drop o).take (n * z)).length = n * z := by rw [List.length_take, List.length_drop]; omega
              by_cases h0 : cap = 0
              · subst h0
                have hn0 : n = 0 := by omega
                subst hn0
                exact .inl ⟨⟨_, rfl⟩, Zbh hz (by rw [hlen])⟩
              · refine .inr ⟨L.block, L.base + o, cap, ?_, ?_, ?_, fun j m hj => ?_⟩
                · rw [ha h0]; simp only [NK.sz]; rw [Zbh hz hlen]
                · simp only [NK.sz]; rw [Zbh hz hlen]; exact hn
                · simp only [NK.sz, NK.cont, clen]; rw [Zbh hz hlen, hlen]; exact Nat.le_refl _
                · rw [Zip (hat r (by simp [ptrs]) L hL)]
                  have hj' : l[o + j]? = some m := by
                    have := Zcf hj
                    rwa [List.getElem?_drop] at this
                  obtain ⟨v, h1, _, h3⟩ := hR.read.2 (o + j) (.int k m) (by rw [hc]; simp [cget, hj'])
                  simp only [VR] at h3
                  rw [Nat.add_assoc, ← h3]
                  exact h1
            · cases hb
          · cases hb
        · cases hb
      · cases hb
    · cases hb
  · rename_i k z k' l n z'
    split at hb
    · rename_i e
      obtain ⟨rfl, rfl, hz⟩ := e
      split at hb
      · rename_i hle
        cases hb
        simp only [VR] at hv
        have hlen : (l.take (n * z)).length = n * z := by rw [List.length_take]; omega
        rcases hv with ⟨h1, h0⟩ | ⟨b, base, cap, h1, h2, h3, h4⟩
        · exact .inl ⟨h1, by simp only [NK.sz]; rw [Zbh hz hlen]; exact h0⟩
        · refine .inr ⟨b, base, cap, ?_, ?_, ?_, fun j m hj => ?_⟩
          · simp only [NK.sz]; rw [Zbh hz hlen]; exact h1
          · simp only [NK.sz]; rw [Zbh hz hlen]; exact h2
          · simp only [NK.sz, NK.cont, clen]; rw [Zbh hz hlen, hlen]; exact Nat.le_refl _
          · exact ZcV hsub (h4 j m (Zcf hj))
      · cases hb
    · cases hb
  · cases hb
    simp only [VR] at hv
    exact .inl ⟨rfl, hv⟩
  · rename_i a' z b r o
    split at hb
    · rename_i row hrow
      split at hb
      · rename_i ks l hc
        split at hb
        · rename_i e
          obtain ⟨rfl, rfl⟩ := e
          split at hb
          · rename_i hlen
            cases hb
            simp only [VR] at hv
            obtain ⟨a0, rfl, q, hq, ha⟩ := hv
            obtain ⟨L, hL, hR⟩ := hh.live hrow (by rw [hc]; rfl)
            rw [hL] at hq
            have ha := ha L (by simpa using hq.symm)
            refine .inr ⟨by simp, L.block, L.base, by rw [ha]; rfl, fun j x hx => ?_⟩
            obtain ⟨y, hy, hi, hl'⟩ := ZmN hlen hx
            obtain ⟨v, h1, h2, h3⟩ := hR.read.2 j ((Z8 (ptK a' z b) j).dec y) (by rw [hc]; simp only [cget, hy, Option.map_some])
            refine ⟨v, ?_, h2, ZmO hi hl' (by have := (List.getElem?_eq_some_iff.1 hy).1; omega) (NK.is0_le hsub ((ZjN _ _ _ _ _ _ _).1 (Znt h3)))⟩
            rw [Zip (hat r (by simp [ptrs]) L hL)]
            exact h1
          · cases hb
        · cases hb
      · cases hb
    · cases hb
  · cases hb
theorem Ziq (hh : HR w0 S ρ h w) {k : NK} {v : EV} {x : NC} {u : Value} (hb : Zee h k v = some x) (hv : VR ρ v u) : k.is (ZfS w) x u :=
  ZgF hh hh.froz (fun _ _ _ _ => rfl) hb hv
theorem ZgG (hh : HR w0 S ρ h w) : ∀ {ks : List NK} {l : List EV} {x : List NC} {cs : List Value}, ZaE h ks l = some x → VRs ρ l cs → cs.length = x.length ∧ ks.length = x.length ∧ ∀ (j : Nat) (k : NK) (n : NC) (c : Value), ks[j]? = some k → x[j]? = some n → cs[j]? = some c → k.is (ZfS w) n c
  | [], [], x, cs, hb, hv => by
    simp only [ZaE, Option.some.injEq] at hb
    simp only [VRs] at hv
    subst hb; subst hv
    exact ⟨rfl, rfl, fun j k n c h => by simp at h⟩
  | k :: ks, v :: l, x, cs, hb, hv => by
    simp only [ZaE, Option.bind_eq_some_iff, Option.map_eq_some_iff] at hb
    obtain ⟨y, hy, r, hr, rfl⟩ := hb
    simp only [VRs] at hv
    obtain ⟨u, cr, rfl, h1, h2⟩ := hv
    obtain ⟨i1, i2, i3⟩ := ZgG hh hr h2
    refine ⟨by simp [i1], by simp [i2], fun j k' n c a1 a2 a3 => ?_⟩
    cases j with
    | zero =>
      simp only [List.getElem?_cons_zero, Option.some.injEq] at a1 a2 a3
      subst a1; subst a2; subst a3
      exact Ziq hh hy h1
    | succ j =>
      simp only [List.getElem?_cons_succ] at a1 a2 a3
      exact i3 j k' n c a1 a2 a3
  | [], v :: l, x, cs, hb, _ => by simp [ZaE] at hb
  | k :: ks, [], x, cs, hb, _ => by simp [ZaE] at hb
theorem Zez {h h' : List Row} {k : NK} {v : EV} (hs : ∀ i ∈ ptrs v, h[i]? = h'[i]?) : Zee h k v = Zee h' k v := by
  unfold Zee
  split <;> try rfl
  · rename_i k z r o n z'
    rw [hs r (by simp [ptrs])]
  · rename_i a z b r o
    rw [hs r (by simp [ptrs])]
theorem Zbi {h h' : List Row} : ∀ {ks : List NK} {l : List EV}, (∀ i ∈ ZI l, h[i]? = h'[i]?) → ZaE h ks l = ZaE h' ks l
  | [], [], _ => rfl
  | k :: ks, v :: l, hs => by
    simp only [ZaE]
    rw [Zez (h' := h') fun i hi => hs i (by simp [ZI, hi]), Zbi (h' := h') fun i hi => hs i (by simp [ZI, hi])]
  | [], v :: l, _ => rfl
  | k :: ks, [], _ => rfl
theorem HR.freeze1 (hh : HR w0 S ρ h w) {i : Nat} {row : Row} {L : Loc} (hi : h[i]? = some row) (ho : row.own = true) (hL : ρ i = some (some L)) :
    ∃ ρ', le ρ ρ' ∧ HR w0 S ρ' (h.set i ⟨true, .unk⟩) w ∧ (∀ k, k ≠ i → ρ' k = ρ k) ∧ ρ'.F L.block = w.heap[L.block]? := by
  have hk := hh.kill hi
  have hic := hh.ice i row L hi ho hL
  have hlt := hh.lt i L hL
  have hil : i < h.length := (List.getElem?_eq_some_iff.1 hi).1
  have hF : leF ρ.F (fun b => if b = L.block then w.heap[L.block]? else ρ.F b) := by
    intro b o hb
    show (if b = L.block then _ else _) = _
    rw [if_neg (by rintro rfl; rw [hic] at hb; cases hb)]
    exact hb
  have hle0 : le0 (updM ρ i none) ⟨(updM ρ i none).at_, fun b => if b = L.block then w.heap[L.block]? else ρ.F b, ρ.F0⟩ := ⟨fun _ _ h => .inl h, hF⟩
  refine ⟨⟨(updM ρ i none).at_, fun b => if b = L.block then w.heap[L.block]? else ρ.F b, ρ.F0⟩, ⟨(ZbD (.inr (.inr rfl))).1, hF, rfl⟩, ?_, fun k hk' => ZA hk', by simp⟩
  have hne : ∀ (j : Nat) (r : Row) (K : Loc), (h.set i ⟨true, .unk⟩)[j]? = some r → r.own = true → updM ρ i none j = some (some K) → K.block ≠ L.block := by
    intro j r K hj hr hK
    by_cases e : j = i
    · subst e; rw [ZJ] at hK; cases hK
    · rw [ZA e] at hK
      rw [List.getElem?_set_ne (Ne.symm e)] at hj
      exact hh.apart j i r K L hj e hr hK hL
  refine ⟨hk.out, fun j r hj => (hk.rows j r hj).imp id fun ⟨K, h1, h2⟩ => ⟨K, h1, h2.mono0 hle0⟩, hk.lt, hk.own, hk.apart, hk.frame, fun b o hb => ?_, fun j r K hj hr hK => ?_, fun b o hb => ?_⟩
  · simp only at hb
    split at hb
    · rename_i e; subst e; exact hb
    · exact hk.froz b o hb
  · show (if K.block = L.block then _ else _) = _
    rw [if_neg (hne j r K hj hr hK)]
    exact hk.ice j r K hj hr hK
  · simp only at hb
    split at hb
    · rename_i e; subst e; exact .inr (hh.own i row L hi ho hL)
    · exact hk.cold b o hb
theorem Zaz {h : List Row} {r : Nat} (hr : ZaF h r = true) : ∃ row, h[r]? = some row ∧ row.own = true ∧ Sx.isAgg row.c = true := by
  unfold ZaF at hr
  split at hr
  · rename_i row hrow
    simp only [Bool.and_eq_true] at hr
    exact ⟨row, hrow, hr.1, hr.2⟩
  · cases hr
theorem HR.freeze2 (hh : HR w0 S ρ h w) {i : Nat} {row : Row} {L : Loc} (hi : h[i]? = some row) (ho : row.own = true) (ha : Sx.isAgg row.c = true) (hL : ρ i = some (some L)) :
    ∃ ρ', le ρ ρ' ∧ HR w0 S ρ' (h.set i ⟨false, row.c⟩) w ∧ (∀ k, ρ' k = ρ k) ∧ ρ'.F L.block = w.heap[L.block]? := by
  have hic := hh.ice i row L hi ho hL
  have hil : i < h.length := (List.getElem?_eq_some_iff.1 hi).1
  have hF : leF ρ.F (fun b => if b = L.block then w.heap[L.block]? else ρ.F b) := by
    intro b o hb
    show (if b = L.block then _ else _) = _
    rw [if_neg (by rintro rfl; rw [hic] at hb; cases hb)]
    exact hb
  have hle : le ρ ⟨ρ.at_, fun b => if b = L.block then w.heap[L.block]? else ρ.F b, ρ.F0⟩ := ⟨fun _ _ h => .inl h, hF, rfl⟩
  refine ⟨⟨ρ.at_, fun b => if b = L.block then w.heap[L.block]? else ρ.F b, ρ.F0⟩, hle, ?_, fun k => rfl, by simp⟩
  have hset : ∀ (j : Nat) (r : Row), (h.set i ⟨false, row.c⟩)[j]? = some r → (j = i ∧ r = ⟨false, row.c⟩) ∨ (j ≠ i ∧ h[j]? = some r) := by
    intro j r hj
    by_cases e : j = i
    · subst e
      rw [List.getElem?_set_self hil] at hj
      cases hj
      exact .inl ⟨rfl, rfl⟩
    · rw [List.getElem?_set_ne (Ne.symm e)] at hj
      exact .inr ⟨e, hj⟩
  have hlive : RowR ρ row L w := by
    obtain ⟨L', h1, h2⟩ := hh.live hi ha
    rw [hL] at h1; cases h1
    exact h2
  refine ⟨fun j hj => hh.out j ?_, fun j r hj => ?_, hh.lt, fun j r K hj hr hK => ?_, fun j k r K K' hj hne hr hK hK' => ?_, hh.frame, fun b o hb => ?_, fun j r K hj hr hK => ?_, fun b o hb => ?_⟩
  · rw [List.getElem?_eq_none_iff] at hj ⊢
    simpa using hj
  · rcases hset j r hj with ⟨rfl, rfl⟩ | ⟨e, hj⟩
    · refine .inr ⟨L, hL, ?_⟩
      exact RowR.mono (ρ := ρ) ⟨hlive.1, by rw [if_neg (by simp)]; exact hlive.read⟩ hle
    · exact (hh.rows j r hj).imp id fun ⟨K, h1, h2⟩ => ⟨K, h1, h2.mono hle⟩
  · rcases hset j r hj with ⟨rfl, rfl⟩ | ⟨e, hj⟩
    · cases hr
    · exact hh.own j r K hj hr hK
  · rcases hset j r hj with ⟨rfl, rfl⟩ | ⟨e, hj⟩
    · cases hr
    · exact hh.apart j k r K K' hj hne hr hK hK'
  · simp only at hb
    split at hb
    · rename_i e; subst e; exact hb
    · exact hh.froz b o hb
  · rcases hset j r hj with ⟨rfl, rfl⟩ | ⟨e, hj⟩
    · cases hr
    · show (if K.block = L.block then _ else _) = _
      rw [if_neg (hh.apart j i r K L hj e hr hK hL)]
      exact hh.ice j r K hj hr hK
  · simp only at hb
    split at hb
    · rename_i e; subst e; exact .inr (hh.own i row L hi ho hL)
    · exact hh.cold b o hb
theorem HR.freezes : ∀ (g : Nat → Row) (rs : List Nat) {ρ : RM} {h : List Row}, HR w0 S ρ h w → rs.Nodup → (∀ r ∈ rs, ZaF h r = true) → (∀ r ∈ rs, g r = ⟨true, .unk⟩ ∨ g r = ⟨false, (Zo h r).c⟩) →
    ∃ ρ', le ρ ρ' ∧ HR w0 S ρ' ((rs.map fun r => (r, g r)).foldl setRow h) w ∧ (∀ k, k ∉ rs → ρ' k = ρ k) ∧ ∀ r ∈ rs, ∀ L, ρ r = some (some L) → ρ'.F L.block = w.heap[L.block]?
  | g, [], ρ, h, hh, _, _, _ => ⟨ρ, le_refl _, hh, fun _ _ => rfl, fun r hr => by cases hr⟩
  | g, i :: rs, ρ, h, hh, hn, ho, hg => by
    obtain ⟨hin, hn⟩ := List.nodup_cons.1 hn
    obtain ⟨row, hi, hio, hia⟩ := Zaz (ho i (by simp))
    obtain ⟨L, hL, hR⟩ := hh.live hi hia
    have hrow : Zo h i = row := by unfold Zo; rw [List.getD_eq_getElem?_getD, hi]; rfl
    have h1 : ∃ ρ', le ρ ρ' ∧ HR w0 S ρ' (h.set i (g i)) w ∧ (∀ k, k ≠ i → ρ' k = ρ k) ∧ ρ'.F L.block = w.heap[L.block]? := by
      rcases hg i (by simp) with e | e
      · rw [e]; exact hh.freeze1 hi hio hL
      · rw [e, hrow]
        obtain ⟨ρ1, l1, h1, k1, f1⟩ := hh.freeze2 hi hio hia hL
        exact ⟨ρ1, l1, h1, fun k _ => k1 k, f1⟩
    obtain ⟨ρ1, l1, h1, k1, f1⟩ := h1
    have hne : ∀ r ∈ rs, r ≠ i := fun r hr e => hin (e ▸ hr)
    obtain ⟨ρ2, l2, h2, k2, f2⟩ := HR.freezes g rs h1 hn (fun r hr => by
      have := ho r (by simp [hr])
      unfold ZaF at this ⊢
      rw [List.getElem?_set_ne (Ne.symm (hne r hr))]
      exact this) (fun r hr => by
      have := hg r (by simp [hr])
      unfold Zo at this ⊢
      rw [List.getD_eq_getElem?_getD] at this ⊢
      rw [List.getElem?_set_ne (Ne.symm (hne r hr))]
      exact this)
    have hsome : ∃ o, w.heap[L.block]? = some o := by
      obtain ⟨_, hR⟩ := hR
      rw [if_pos hio] at hR
      obtain ⟨_, c, t, hc, _⟩ := hR
      exact ⟨_, hc⟩
    obtain ⟨o, hob⟩ := hsome
    refine ⟨ρ2, le_trans l1 l2, by simpa [setRow] using h2, fun k hk => ?_, fun r hr K hK => ?_⟩
    · rw [k2 k (by simp at hk; exact hk.2), k1 k (by simp at hk; exact hk.1)]
    · rcases List.mem_cons.1 hr with rfl | hr
      · rw [hL] at hK; cases hK
        rw [hob]
        exact l2.2.1 _ _ (by rw [f1, hob])
      · exact f2 r hr K (by rw [k1 r (hne r hr)]; exact hK)
theorem Zfm {h : List Row} : ∀ {ks : List NK} {l : List EV} {x : List NC}, ZaE h ks l = some x → ks.length = x.length ∧ l.length = x.length ∧ ∀ (j : Nat) (k : NK) (n : NC), ks[j]? = some k → x[j]? = some n → ∃ v, l[j]? = some v ∧ Zee h k v = some n
  | [], [], x, hb => by
    simp only [ZaE, Option.some.injEq] at hb
    subst hb
    exact ⟨rfl, rfl, fun j k n h => by simp at h⟩
  | k :: ks, v :: l, x, hb => by
    simp only [ZaE, Option.bind_eq_some_iff, Option.map_eq_some_iff] at hb
    obtain ⟨y, hy, r, hr, rfl⟩ := hb
    obtain ⟨i1, i2, i3⟩ := Zfm hr
    refine ⟨by simp [i1], by simp [i2], fun j k' n a1 a2 => ?_⟩
    cases j with
    | zero =>
      simp only [List.getElem?_cons_zero, Option.some.injEq] at a1 a2
      subst a1; subst a2
      exact ⟨v, rfl, hy⟩
    | succ j =>
      simp only [List.getElem?_cons_succ] at a1 a2
      exact i3 j k' n a1 a2
  | [], v :: l, x, hb => by simp [ZaE] at hb
  | k :: ks, [], x, hb => by simp [ZaE] at hb
theorem Zir {l : List EV} : ∀ {j : Nat} {v : EV}, l[j]? = some v → ∀ r ∈ ptrs v, r ∈ ZI l := by
  induction l with
  | nil => intro j v h; simp at h
  | cons e l ih =>
    intro j v h r hr
    simp only [ZI, List.mem_append]
    cases j with
    | zero => simp at h; subst h; exact .inl hr
    | succ j => simp at h; exact .inr (ih h r hr)
theorem ZdF : ∀ {l : List Nat}, Zcy l = true → l.Nodup
  | [], _ => List.nodup_nil
  | x :: l, h => by
    simp only [Zcy, Bool.and_eq_true, Bool.not_eq_true'] at h
    exact List.nodup_cons.2 ⟨by simpa using h.1, ZdF h.2⟩
theorem Zfn (g : Nat → Row) : ∀ (rs : List Nat) (h : List Row) (k : Nat), k ∉ rs → ((rs.map fun r => (r, g r)).foldl setRow h)[k]? = h[k]?
  | [], h, k, _ => rfl
  | r :: rs, h, k, hk => by
    simp only [List.mem_cons, not_or] at hk
    simp only [List.map_cons, List.foldl_cons]
    rw [Zfn g rs _ k hk.2]
    exact List.getElem?_set_ne (Ne.symm hk.1)
theorem ZfT (g : Nat → Row) : ∀ (rs : List Nat) (h : List Row) (k : Nat) (row : Row), k ∉ rs → ((rs.map fun r => (r, g r)).foldl setRow (h.set k row)) = ((rs.map fun r => (r, g r)).foldl setRow h).set k row
  | [], h, k, row, _ => rfl
  | r :: rs, h, k, row, hk => by
    simp only [List.mem_cons, not_or] at hk
    simp only [List.map_cons, List.foldl_cons]
    rw [← ZfT g rs _ k row hk.2]
    congr 1
    simp only [setRow]
    rw [List.set_comm _ _ hk.1]
theorem ZeA (h : List Row) (ks : List NK) (r : Nat) : Zcz h ks r = ⟨true, .unk⟩ ∨ Zcz h ks r = ⟨false, (Zo h r).c⟩ := by
  unfold Zcz
  split
  · exact .inr rfl
  · exact .inl rfl
theorem Zhy {o : Oper} {at_ len sz : Nat} {c : EV} {T : List Nat} {ks : List NK} {x : EV × List Nat} (hf : fresh h at_ = true) (hd : Does P o a w0 S ρ h w { v := .slice at_ 0 len sz, upd := [(at_, ⟨true, c⟩)] }) (hx : frzC h T ks c = some x) :
    Does P o a w0 S ρ h w (ZcR h ks at_ len sz x) := by
  unfold frzC at hx
  split at hx
  · rename_i l
    split at hx
    · rename_i hc
      simp only [Bool.and_eq_true, List.all_eq_true] at hc
      obtain ⟨hn, ho⟩ := hc
      simp only [Option.map_eq_some_iff] at hx
      obtain ⟨nc, hnc, rfl⟩ := hx
      intro K Q hK
      refine hd K Q fun v w' ρ1 hl hv hR => ?_
      simp only [List.foldl_cons, List.foldl_nil, List.append_nil, setRow] at hR
      have hat : h[at_]? = some ⟨false, .unk⟩ := by
        unfold fresh at hf
        split at hf
        · assumption
        · cases hf
      have hlt : at_ < h.length := (List.getElem?_eq_some_iff.1 hat).1
      have hni : at_ ∉ ZI l := fun hm => by
        obtain ⟨row, h1, _, h3⟩ := Zaz (ho at_ hm).1
        rw [hat] at h1; cases h1
        simp [Sx.isAgg] at h3
      have hsame : ∀ i ∈ ZI l, h[i]? = (h.set at_ ⟨true, .agg l⟩)[i]? := fun i hi => (List.getElem?_set_ne (by rintro rfl; exact hni hi)).symm
      have hnc' : ZaE (h.set at_ ⟨true, .agg l⟩) ks l = some nc := by rw [← Zbi hsame]; exact hnc
      obtain ⟨ρ2, l2, h2, k2, f2⟩ := HR.freezes (Zcz h ks) (ZI l) hR (ZdF hn) (fun r hr => by
        have := (ho r hr).1
        unfold ZaF at this ⊢
        rw [← hsame r hr]
        exact this) (fun r hr => by
        have := ZeA h ks r
        unfold Zo at this ⊢
        rw [List.getD_eq_getElem?_getD] at this ⊢
        rw [← hsame r hr]
        exact this)
      have hi1 : (h.set at_ ⟨true, .agg l⟩)[at_]? = some ⟨true, .agg l⟩ := by simp [hlt]
      obtain ⟨L, hL, hRow⟩ := hR.live hi1 rfl
      have hL2 : ρ2 at_ = some (some L) := by rw [k2 at_ hni]; exact hL
      have hi2 := (Zfn (Zcz h ks) (ZI l) (h.set at_ ⟨true, .agg l⟩) at_ hni).trans hi1
      obtain ⟨g1, g2, g3⟩ := Zfm hnc'
      have hput := h2.put (L := L) (row := ⟨true, .nest ks nc⟩) (w' := w') hi2 (Chg.refl w' _) (.inr hL2) rfl ?_ (h2.lt _ _ hL2) (h2.own _ _ _ hi2 rfl hL2) (fun k Kl hk hK' => (h2.apart at_ k _ L Kl hi2 (Ne.symm hk) rfl hL2 hK').symm) (h2.ice _ _ _ hi2 rfl hL2)
      · rw [ZfM hL2] at hput
        refine hK v w' ρ2 (le_trans hl l2) (ZcH l2 _ _ hv) ?_
        rw [ZfT _ _ _ _ _ hni, List.set_set] at hput
        show HR w0 S ρ2 (List.foldl Sx.setRow (h.set at_ ⟨true, .nest ks nc⟩) ((ZI l).map fun r => (r, Zcz h ks r)) ++ []) w'
        rw [List.append_nil, ZfT _ _ _ _ _ hni]
        exact hput
      · rw [ZfM hL2]
        obtain ⟨hz, hRow⟩ := hRow
        rw [if_pos rfl] at hRow
        obtain ⟨hb, cs, t, hcs, hrs, hcr⟩ := hRow
        refine ⟨by simp only [clen] at hz ⊢; omega, ?_⟩
        rw [if_pos rfl]
        refine ⟨hb, cs, t, hcs, hrs, rfl, fun j e hj => ?_⟩
        simp only [cget, Option.map_eq_some_iff] at hj
        obtain ⟨n, hn', rfl⟩ := hj
        have hjl : j < nc.length := (List.getElem?_eq_some_iff.1 hn').1
        obtain ⟨ev, he1, he2⟩ := g3 j _ n (ZfK (by omega)) hn'
        obtain ⟨u, hu1, hu2, hu3⟩ := hcr.2 j ev (by simp only [cget]; exact he1)
        refine ⟨u, hu1, hu2, ZmJ (ZgF hR l2.2.1 (fun r hr Lr hLr => f2 r (Zir he1 r hr) Lr hLr) he2 hu3)⟩
    · cases hx
  · cases hx
    simpa [ZcR] using hd
theorem ZgH {o : Oper} {t e' : TypeId} {m z : Nat} {ps : Array (Nat × Operand)} (ho : o.op = .buildSlice t m ps) (hu : P.underlying t = some (.slice e')) (hs : ZP P e' = some (z + 1)) {zv : EV} (hz : ZcS P e' = some zv) (hzl : clen zv = z + 1)
    (hle : m * (z + 1) ≤ 16777216) {qs : List (Nat × Nat × Opd)} (hq : ZcB P t ps.toList = some qs) (hσ : ∀ t, VR ρ (σ t) (a.tmps.getD t undef)) (hh : HR w0 S ρ h w) {ks : List NK} {e : Eff} (he : evOp call n (.bsliceF ks (z + 1) m zv qs) σ h = some e) : Does P o a w0 S ρ h w e := by
  simp only [evOp] at he
  split at he
  · rename_i hf
    simp only [Option.bind_eq_some_iff, Option.map_eq_some_iff] at he
    obtain ⟨c, hc, x, hx, rfl⟩ := he
    refine Zhy hf (Zex ho hu hs hz hzl hle hq hσ hh (call := call) (n := n) ?_) hx
    simp only [evOp]
    rw [if_pos hf, hc]
    rfl
  · cases he
theorem ZmP (hh : HR w0 S ρ h w) {b : BK} {v x : EV} {u : Value} (hb : bArg h b v = some x) (hp : ptrs x = []) (hv : VR ρ v u) : VR (RM.mk (fun _ => none) (ZfS w) fun _ => True) x u := by
  have hsub : subF ρ.F (ZfS w) := hh.froz
  unfold bArg at hb
  split at hb
  · cases hb
    exact ZfR hsub _ _ hp hv
  · split at hb
    · rename_i e
      subst e
      cases hb
      exact ZfR hsub _ _ hp hv
    · cases hb
  · rename_i ks l
    simp only [Option.map_eq_some_iff] at hb
    obtain ⟨y, hy, rfl⟩ := hb
    simp only [VR] at hv ⊢
    obtain ⟨cs, rfl, h1, h2⟩ := hv
    obtain ⟨i1, i2, i3⟩ := ZgG hh hy h1
    refine ⟨cs, rfl, i1, h2, fun j n c a1 a2 => ?_⟩
    have hj : j < ks.length := by rw [i2]; exact (List.getElem?_eq_some_iff.1 a1).1
    exact i3 j _ n c (by rw [ZfK hj]) a1 a2
  · rename_i k z v
    simp only [Option.map_eq_some_iff] at hb
    obtain ⟨y, hy, rfl⟩ := hb
    have := Ziq hh hy hv
    simp only [VR]
    exact this.imp id fun ⟨b, base, cap, h1, h2, h3, h4⟩ => ⟨b, base, cap, h1, h2, h3, h4⟩
  · cases hb
theorem Zis (hh : HR w0 S ρ h w) : ∀ {bs : List BK} {l x : List EV} {vs : List Value}, ZdV h bs l = some x → ZI x = [] → VRs ρ l vs → VRs (RM.mk (fun _ => none) (ZfS w) fun _ => True) x vs
  | [], [], x, vs, hb, _, hv => by
    simp only [ZdV, Option.some.injEq] at hb
    subst hb
    simpa [VRs] using hv
  | b :: bs, v :: l, x, vs, hb, hp, hv => by
    simp only [ZdV, Option.bind_eq_some_iff, Option.map_eq_some_iff] at hb
    obtain ⟨y, hy, r, hr, rfl⟩ := hb
    simp only [ZI, List.append_eq_nil_iff] at hp
    simp only [VRs] at hv ⊢
    obtain ⟨u, q, rfl, h1, h2⟩ := hv
    exact ⟨u, q, rfl, ZmP hh hy hp.1 h1, Zis hh hr hp.2 h2⟩
  | [], v :: l, x, vs, hb, _, _ => by simp [ZdV] at hb
  | b :: bs, [], x, vs, hb, _, _ => by simp [ZdV] at hb
mutual
theorem Zfo {ρ ρ' : RM} {σ : Nat → Option Nat} (hσ : ∀ r s l, σ r = some s → ρ r = some l → ρ' s = some l ∨ ρ' s = some none) : ∀ (e : EV) (v : Value), noF e = true → VR ρ e v → VR ρ' (ren σ e) v
  | .unk, v, _, _ => by simp [ren, VR]
  | .bool b, v, _, hv => by simpa [ren, VR] using hv
  | .int k n, v, _, hv => by simpa [ren, VR] using hv
  | .str s, v, _, hv => by simpa [ren, VR] using hv
  | .nilp, v, _, hv => by simpa [ren, VR] using hv
  | .ptr r o, v, _, hv => by
    simp only [VR] at hv
    obtain ⟨a, rfl, l, hl, ha⟩ := hv
    cases hs : σ r with
    | none => simp [ren, hs, VR]
    | some s =>
      simp only [ren, hs, VR]
      rcases hσ r s l hs hl with h' | h'
      · exact ⟨a, rfl, l, h', ha⟩
      · exact ⟨a, rfl, none, h', fun _ hn => by cases hn⟩
  | .nils, v, _, hv => by simpa [ren, VR] using hv
  | .slice r o n z, v, _, hv => by
    simp only [VR] at hv
    obtain ⟨a, cap, rfl, hn, l, hl, ha⟩ := hv
    cases hs : σ r with
    | none => simp [ren, hs, VR]
    | some s =>
      simp only [ren, hs, VR]
      rcases hσ r s l hs hl with h' | h'
      · exact ⟨a, cap, rfl, hn, l, h', ha⟩
      · exact ⟨a, cap, rfl, hn, none, h', fun _ hn => by cases hn⟩
  | .ints k l, v, _, hv => by simpa [ren, VR] using hv
  | .mix ks l, v, _, hv => by simpa [ren, VR] using hv
  | .nest ks l, v, hn, hv => by simp [noF] at hn
  | .ro c n z, v, hn, hv => by simp [noF] at hn
  | .rp c o, v, hn, hv => by simp [noF] at hn
  | .agg l, v, hn, hv => by
    simp only [VR] at hv
    obtain ⟨cs, rfl, hl, hc⟩ := hv
    simp only [ren, VR]
    exact ⟨cs, rfl, Zds hσ l cs (by simpa [noF] using hn) hl, hc⟩
  | .tup l, v, hn, hv => by
    simp only [VR] at hv
    obtain ⟨cs, rfl, hl⟩ := hv
    simp only [ren, VR]
    exact ⟨cs, rfl, Zds hσ l cs (by simpa [noF] using hn) hl⟩
  | .fn f a b, v, hn, hv => by
    simp only [noF, Bool.and_eq_true] at hn
    simp only [VR] at hv
    obtain ⟨x, y, rfl, hx, hy⟩ := hv
    simp only [ren, VR]
    exact ⟨x, y, rfl, Zds hσ a x hn.1 hx, Zds hσ b y hn.2 hy⟩
  | .nilf, v, _, hv => by simpa [ren, VR] using hv
  | .tree _ _, v, hn, hv => by simp [noF] at hn
  | .tp _ _, v, hn, hv => by simp [noF] at hn
theorem Zds {ρ ρ' : RM} {σ : Nat → Option Nat} (hσ : ∀ r s l, σ r = some s → ρ r = some l → ρ' s = some l ∨ ρ' s = some none) : ∀ (l : List EV) (vs : List Value), noFL l = true → VRs ρ l vs → VRs ρ' (renL σ l) vs
  | [], vs, _, hv => by simpa [renL, VRs] using hv
  | e :: l, vs, hn, hv => by
    simp only [noFL, Bool.and_eq_true] at hn
    simp only [VRs] at hv
    obtain ⟨v, r, rfl, h1, h2⟩ := hv
    simp only [renL, VRs]
    exact ⟨v, r, rfl, Zfo hσ e v hn.1 h1, Zds hσ l r hn.2 h2⟩
end
theorem Zc3 : ∀ {l : List EV}, noFL l = true → ∀ (j : Nat) (e : EV), l[j]? = some e → noF e = true
  | [], _, j, e, h => by simp at h
  | x :: l, hn, j, e, h => by
    simp only [noFL, Bool.and_eq_true] at hn
    cases j with
    | zero => simp only [List.getElem?_cons_zero, Option.some.injEq] at h; subst h; exact hn.1
    | succ j => exact Zc3 hn.2 j e (by simpa using h)
theorem ZmQ {c : EV} (hn : noF c = true) {j : Nat} {e : EV} (h : cget c j = some e) : noF e = true := by
  cases c <;> simp only [cget] at h <;> try (cases h; done)
  · simp only [Option.map_eq_some_iff] at h
    obtain ⟨n, _, rfl⟩ := h
    rfl
  · simp only [Option.map_eq_some_iff] at h
    obtain ⟨n, _, rfl⟩ := h
    generalize Zad _ j = q
    cases q <;> rfl
  · simp [noF] at hn
  · exact Zc3 (by simpa [noF] using hn) j e h
theorem ZfU {ρ ρ' : RM} {σ : Nat → Option Nat} (hσ : ∀ r s l, σ r = some s → ρ r = some l → ρ' s = some l ∨ ρ' s = some none) {row : Row} {L : Loc} {w : World} (hn : noF row.c = true) (h : RowR ρ row L w) : RowR ρ' (Zr σ row) L w := by
  have key : ∀ {get : Nat → Option Value}, CR ρ row.c get → CR ρ' (ren σ row.c) get := fun {get} hc => by
    refine ⟨Zj9 σ _ hc.1, fun j e hj => ?_⟩
    rw [Zio σ _ hc.1 j] at hj
    simp only [Option.map_eq_some_iff] at hj
    obtain ⟨e', he', rfl⟩ := hj
    obtain ⟨v, h1, h2, h3⟩ := hc.2 j e' he'
    exact ⟨v, h1, h2, Zfo hσ _ _ (ZmQ hn he') h3⟩
  obtain ⟨hz, h⟩ := h
  refine ⟨by simpa [Zr, Zin] using hz, ?_⟩
  have hro : (Zr σ row).own = row.own := rfl
  rw [hro]
  split at h
  · rename_i ho
    obtain ⟨hb, c, t, hc, h2, hr⟩ := h
    rw [if_pos ho]
    exact ⟨hb, c, t, hc, h2, key hr⟩
  · rename_i ho
    rw [if_neg ho]
    exact key h
theorem Zjd {o : Oper} {f : FuncId} {xs : Array Operand} {ats : Array TypeId} {fn : Func} (ho : o.op = .call { callee := .value (.func f), args := xs, argTypes := ats }) (hf : P.funcs[f]? = some fn) (hn : (fn.name == "runtime.NumGoroutine") = false) (hb : fn.body.isNone = false)
    {bs : List BK} {xs' : List Opd} (hx : ZaZ xs.toList = some xs') (hσ : ∀ t, VR ρ (σ t) (a.tmps.getD t undef)) (hh : HR w0 S ρ h w) (hcall : ZdE P call) {e : Eff} (he : evOp call n (.callB f bs xs') σ h = some e) : Does P o a w0 S ρ h w e := by
  have hargs := Za6 hσ hx
  have hrun := Zc2 (a := a) ho hf hn hb w
  have hall : (xs.toList.map a.eval).toArray = xs.map a.eval := by rw [← Array.toList_map, Array.toArray_toList]
  rw [← hall] at hrun
  simp only [evOp, Zbz] at he
  split at he
  · cases he
  rename_i as has
  split at he
  · rename_i hp
    split at he
    · rename_i r rows' hc
      split at he
      · rename_i hno
        simp only [Option.some.injEq] at he
        subst he
        simp only [Bool.and_eq_true, List.all_eq_true] at hno
        have hb0 : HR w [] (RM.mk (fun _ => none) (ZfS w) fun _ => True) [] w := ⟨fun _ _ => rfl, fun i row hi => by simp at hi, fun i L h => (by cases h), fun i row L hi => by simp at hi, fun i j ri Li Lj hi => by simp at hi, Fr.refl _ _, fun b o h => h, fun i row L hi => (by simp at hi), fun _ _ _ => .inl trivial⟩
        have hfn := hcall _ _ _ _ _ _ hc w [] _ _ hb0 (fun i hi => by simp at hi) (Zis hh has hp hargs)
        intro K Q hK
        simp only [Oper.wp, hrun, Oper.upon_enter]
        refine hfn.mono fun e' w' ⟨v, ρ', he', hvr, hR, hlen, hkeep, hmn, hml, hmo, hF, hF0⟩ => ?_
        subst he'
        have hg : HR w0 S ρ h w' := hh.grow hR.frame
        let ρ3 : RM := ⟨fun i => if i < h.length then ρ i else ρ' (i - h.length), ρ.F, ρ.F0⟩
        have hback : ∀ r s l, Zbf h.length r = some s → ρ' r = some l → ρ3 s = some l ∨ ρ3 s = some none := by
          intro r s l hs hl
          simp only [Zbf, Option.some.injEq] at hs
          subst hs
          left
          have : ¬ (h.length + r < h.length) := by omega
          simp only [ρ3, this, if_false, Nat.add_sub_cancel_left]
          exact hl
        have hle : le ρ ρ3 := by
          refine ⟨fun i l hl => ?_, Zae _, rfl⟩
          have hi : i < h.length := by
            rcases Nat.lt_or_ge i h.length with h1 | h1
            · exact h1
            · rw [hh.out i (List.getElem?_eq_none h1)] at hl; cases hl
          left
          simp only [ρ3, hi, if_true]
          exact hl
        refine hK v w' ρ3 hle (Zfo hback r v hno.1 hvr) ?_
        show HR w0 S ρ3 (h ++ rows'.map (Zr (Zbf h.length))) w'
        have hcls : ∀ i, (i < h.length ∧ ρ3 i = ρ i ∧ (h ++ rows'.map (Zr (Zbf h.length)))[i]? = h[i]?) ∨ ∃ p, i = h.length + p ∧ ρ3 i = ρ' p ∧ (h ++ rows'.map (Zr (Zbf h.length)))[i]? = (rows'[p]?).map (Zr (Zbf h.length)) := by
          intro i
          by_cases hi : i < h.length
          · exact .inl ⟨hi, by simp only [ρ3, hi, if_true], List.getElem?_append_left hi⟩
          · refine .inr ⟨i - h.length, by omega, by simp only [ρ3, hi, if_false], ?_⟩
            rw [List.getElem?_append_right (by omega), List.getElem?_map]
        have hnew : ∀ p (row : Row) L, rows'[p]? = some row → ρ' p = some (some L) → row.own = true ∧ w.heap.size ≤ L.block := by
          intro p row L hp hL
          have ho := hmo p row (.inl (Nat.zero_le _)) hp
          rcases hR.own p row L hp ho hL with h1 | h1
          · simp at h1
          · exact ⟨ho, h1⟩
        have hlive : ∀ p L, ρ' p = some (some L) → ∃ row, rows'[p]? = some row := by
          intro p L hL
          cases hx : rows'[p]? with
          | some row => exact ⟨row, rfl⟩
          | none => rw [hR.out p hx] at hL; cases hL
        refine ⟨fun i hi => ?_, fun i row hi => ?_, fun i L hL => ?_, fun i row L hi ho hL => ?_, fun i j ri Li Lj hi hne ho hLi hLj => ?_, hg.frame, hg.froz, fun i row L hi ho hL => ?_, hg.cold⟩
        · rcases hcls i with ⟨c1, c2, c3⟩ | ⟨p, c1, c2, c3⟩
          · rw [c2]; rw [c3] at hi; exact hg.out i hi
          · rw [c2]; rw [c3] at hi; exact hR.out p (by simpa using hi)
        · rcases hcls i with ⟨c1, c2, c3⟩ | ⟨p, c1, c2, c3⟩
          · rw [c3] at hi
            rw [c2]
            exact (hg.rows i row hi).imp id fun ⟨L, h1, h2⟩ => ⟨L, h1, h2.mono hle⟩
          · rw [c3] at hi
            simp only [Option.map_eq_some_iff] at hi
            obtain ⟨row', hr', rfl⟩ := hi
            rw [c2]
            rcases hR.rows p row' hr' with ⟨h1, h2⟩ | ⟨L, h1, h2⟩
            · exact .inl ⟨by simp only [Zr, h1, ren], h2⟩
            · exact .inr ⟨L, h1, ZfU hback ((hno.2 row' (List.mem_of_getElem? hr')).2) h2⟩
        · rcases hcls i with ⟨c1, c2, c3⟩ | ⟨p, c1, c2, c3⟩
          · rw [c2] at hL; exact hg.lt i L hL
          · rw [c2] at hL; exact hR.lt p L hL
        · rcases hcls i with ⟨c1, c2, c3⟩ | ⟨p, c1, c2, c3⟩
          · rw [c2] at hL; rw [c3] at hi; exact hg.own i row L hi ho hL
          · rw [c2] at hL; rw [c3] at hi
            simp only [Option.map_eq_some_iff] at hi
            obtain ⟨row', hr', rfl⟩ := hi
            exact .inr (Nat.le_trans hh.frame.size (hnew p row' L hr' hL).2)
        · rcases hcls i with ⟨c1, c2, c3⟩ | ⟨p, c1, c2, c3⟩ <;> rcases hcls j with ⟨d1, d2, d3⟩ | ⟨q, d1, d2, d3⟩ <;> rw [c2] at hLi <;> rw [d2] at hLj
          · rw [c3] at hi
            exact hg.apart i j ri Li Lj hi hne ho hLi hLj
          · obtain ⟨row', hr'⟩ := hlive q Lj hLj
            have h1 := (hnew q row' Lj hr' hLj).2
            have h2 := hh.lt i Li hLi
            omega
          · obtain ⟨row', hr'⟩ := hlive p Li hLi
            have h1 := (hnew p row' Li hr' hLi).2
            have h2 := hh.lt j Lj hLj
            omega
          · rw [c3] at hi
            simp only [Option.map_eq_some_iff] at hi
            obtain ⟨row', hr', rfl⟩ := hi
            exact hR.apart p q row' Li Lj hr' (by omega) ho hLi hLj
        · rcases hcls i with ⟨c1, c2, c3⟩ | ⟨p, c1, c2, c3⟩
          · rw [c2] at hL; rw [c3] at hi; exact hg.ice i row L hi ho hL
          · rw [c2] at hL; rw [c3] at hi
            simp only [Option.map_eq_some_iff] at hi
            obtain ⟨row', hr', rfl⟩ := hi
            have h1 := (hnew p row' L hr' hL).2
            show ρ.F L.block = none
            cases hx : ρ.F L.block with
            | none => rfl
            | some ob =>
              have := hh.froz _ _ hx
              have hlt := (Array.getElem?_eq_some_iff.1 this).1
              omega
      · cases he
    · cases he
  · cases he
def Zl (P : Program) (f : FuncId) : Bool :=
  match P.funcs[f]? with
  | some fn => (!(fn.name == "runtime.NumGoroutine") && !fn.body.isNone) && decide (f < yld)
  | none => false
theorem Zje {o : Oper} {g : Operand} {xs : Array Operand} {ats : Array TypeId} (ho : o.op = .call { callee := .value g, args := xs, argTypes := ats })
    {g' : Opd} {xs' : List Opd} (hg : cOpd g = some g') (hx : ZaZ xs.toList = some xs') (hσ : ∀ t, VR ρ (σ t) (a.tmps.getD t undef)) (hh : HR w0 S ρ h w) (hcall : ZdE P call)
    (hcan : ∀ f args h r, call f args h = some r → Zl P f = true) {e : Eff} (he : evOp call n (.callv g' xs') σ h = some e) : Does P o a w0 S ρ h w e := by
  have h1 := ZN hσ hg
  have h2 := Za6 hσ hx
  simp only [evOp] at he
  split at he
  · rename_i f x y hf
    rw [hf] at h1
    simp only [VR] at h1
    obtain ⟨u, v, hu, hxu, hyv⟩ := h1
    refine Zka (vs := u ++ xs.toList.map a.eval ++ v) ?_ (Zbq (Zbq hxu h2) hyv) hh hcall he
    have hc : Zl P f = true := by
      unfold Za3 at he
      simp only at he
      split at he
      · split at he
        · simp at he
        · rename_i hcc
          exact hcan _ _ _ _ hcc
      · simp at he
    unfold Zl at hc
    split at hc
    · rename_i fn hfn
      simp only [Bool.and_eq_true, Bool.not_eq_true', decide_eq_true_eq] at hc
      obtain ⟨hc, hlt⟩ := hc
      rw [ZcY hlt] at hu
      obtain ⟨c, hcb⟩ : ∃ c, fn.body = some c := by cases hb : fn.body with | none => simp [hb] at hc | some c => exact ⟨c, rfl⟩
      have hn' : ¬ fn.name = "runtime.NumGoroutine" := by simpa using hc.1
      have ha : (xs.toList.map a.eval).toArray = xs.map a.eval := by rw [← Array.toList_map, Array.toArray_toList]
      simp only [execOp, ho, resolve, hu, Deferred.ofValue, Sem.run_bind, Sem.run_pure, Result.andThen_ok, invoke, callFunc, run_program, hfn]
      simp [hn', hcb, ← ha]
    · simp at hc
  · simp at he
end
end Go.Sx
