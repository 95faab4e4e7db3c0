/-
  Literals, and new rows of memory: what the abstract machine computes is what the model computes. Conditions: none.
-/
import Derived.Test.YtlbfafbhflblcaaSxG
namespace Go.Sx
open Go
set_option linter.unusedVariables false
theorem Zb3 {v : Value} {e : EV} (h : ofV v = some e) : isAgg e = true ∨ ZM e = true := by
  unfold ofV at h
  split at h
  · simp only [Option.map_eq_some_iff] at h
    obtain ⟨l, _, rfl⟩ := h
    exact .inl (ZbB l)
  · unfold ofV1 at h
    split at h <;> simp at h <;> subst h <;> exact .inr rfl
theorem ZgB (off : Nat) : ∀ (vs : List Value) (k : Nat) (cs : Array Value) (i : Nat), off + k + vs.length ≤ cs.size →
    ((vs.zipIdx k).foldl (fun cs (p : Value × Nat) => cs.setIfInBounds (off + p.2) p.1) cs)[i]? = if off + k ≤ i ∧ i < off + k + vs.length then vs[i - (off + k)]? else cs[i]?
  | [], k, cs, i, h => by
    simp
    omega
  | v :: vs, k, cs, i, h => by
    simp only [List.zipIdx_cons, List.foldl_cons]
    simp only [List.length_cons] at h
    rw [ZgB off vs (k + 1) _ i (by simp; omega)]
    by_cases h1 : off + (k + 1) ≤ i ∧ i < off + (k + 1) + vs.length
    · rw [if_pos h1, if_pos ⟨by omega, by simp; omega⟩]
      have : i - (off + k) = (i - (off + (k + 1))) + 1 := by omega
      rw [this]; simp
    · rw [if_neg h1]
      by_cases h2 : i = off + k
      · subst h2
        rw [if_pos ⟨by omega, by simp⟩]
        simp [Array.getElem?_setIfInBounds]
        omega
      · rw [if_neg (by simp; omega), Array.getElem?_setIfInBounds_ne (Ne.symm h2)]
theorem ZcC (off : Nat) : ∀ (l : List (Value × Nat)) (cs : Array Value), (l.foldl (fun cs (p : Value × Nat) => cs.setIfInBounds (off + p.2) p.1) cs).size = cs.size
  | [], cs => rfl
  | p :: l, cs => by simp only [List.foldl_cons]; rw [ZcC off l]; simp
def AR (ρ : RM) (c : EV) (cs : Array Value) : Prop := isAgg c = true ∧ cs.size = clen c ∧ (∀ v ∈ cs.toList, v.oneCell' = true) ∧ ∀ (j : Nat) (e : EV), cget c j = some e → ∃ v, cs[j]? = some v ∧ VR ρ e v
theorem AR.vr {ρ : RM} {c : EV} {cs : Array Value} (h : AR ρ c cs) : VR ρ c (.agg cs) := by
  have := Zbs (cs := cs.toList) h.1 (by simpa using h.2.1) h.2.2.1 (fun j e hj => by simpa using h.2.2.2 j e hj)
  simpa using this
theorem AR.of {ρ : RM} {c : EV} {cs : Array Value} (h : VR ρ c (.agg cs)) (ha : isAgg c = true) : AR ρ c cs := by
  obtain ⟨l, hl, h1, h2, h3⟩ := Zen h ha
  simp only [Value.agg.injEq] at hl
  subst hl
  exact ⟨ha, by simpa using h1, by simpa using h2, fun j e hj => by simpa using h3 j e hj⟩
theorem AR.cr {ρ : RM} {c : EV} {cs : Array Value} (h : AR ρ c cs) : CR ρ c (fun j => cs[j]?) :=
  ⟨Zeo h.1, fun j e hj => let ⟨v, h1, h2⟩ := h.2.2.2 j e hj; ⟨v, h1, h.2.2.1 v (Array.mem_toList_iff.2 (Array.mem_of_getElem? h1)), h2⟩⟩
theorem Znv {ρ : RM} {c x c' : EV} {cs : Array Value} {off : Nat} {v : Value} (h : cput c off x = some c') (hc : AR ρ c cs) (hv : VR ρ x v) :
    v.cells.size = clen x ∧ off + v.cells.size ≤ cs.size ∧ AR ρ c' (v.cells.zipIdx.foldl (fun cs (p : Value × Nat) => cs.setIfInBounds (off + p.2) p.1) cs) := by
  obtain ⟨_, ha', hl, hle, hk, hg⟩ := ZaP h
  obtain ⟨h1, h2, h3⟩ := ZbC hv hk
  have hsz : v.cells.size = clen x := by simpa using h1
  have hf : v.cells.zipIdx.foldl (fun cs (p : Value × Nat) => cs.setIfInBounds (off + p.2) p.1) cs = (v.cells.toList.zipIdx 0).foldl (fun cs (p : Value × Nat) => cs.setIfInBounds (off + p.2) p.1) cs := by
    rw [← Array.foldl_toList]
    simp
  have hget : ∀ i, ((v.cells.toList.zipIdx 0).foldl (fun cs (p : Value × Nat) => cs.setIfInBounds (off + p.2) p.1) cs)[i]? = if off ≤ i ∧ i < off + clen x then v.cells.toList[i - off]? else cs[i]? := by
    intro i
    have := ZgB off v.cells.toList 0 cs i (by rw [h1, hc.2.1]; omega)
    simpa [h1] using this
  refine ⟨hsz, by rw [hsz, hc.2.1]; exact hle, ?_⟩
  rw [hf]
  refine ⟨ha', by rw [ZcC, hc.2.1, hl], fun u hu => ?_, fun j e hj => ?_⟩
  · obtain ⟨i, hi⟩ := List.mem_iff_getElem?.1 hu
    simp only [Array.getElem?_toList] at hi
    rw [hget i] at hi
    split at hi
    · exact h2 u (List.mem_of_getElem? hi)
    · exact hc.2.2.1 u (Array.mem_toList_iff.2 (Array.mem_of_getElem? hi))
  · rw [hg j] at hj
    rw [hget j]
    split at hj
    · rename_i hc'
      rw [if_pos hc']
      exact h3 _ e hj
    · rename_i hc'
      rw [if_neg hc']
      exact hc.2.2.2 j e hj
theorem ZfO {ρ : RM} {place : Nat → Option (Nat × Nat)} : ∀ (ps : List (Nat × Value)) (qs : List (Nat × Nat × EV)) {c c' : EV} {cs : Array Value}, Za2 c qs = some c' → AR ρ c cs →
    ps.length = qs.length → (∀ (j : Nat) (p : Nat × Value) (q : Nat × Nat × EV), ps[j]? = some p → qs[j]? = some q → place p.1 = some (q.1, q.2.1) ∧ VR ρ q.2.2 p.2) →
    ∃ cs', Instr.fill place cs ps = some cs' ∧ AR ρ c' cs'
  | [], [], c, c', cs, h, hc, _, _ => by
    simp only [Za2, Option.some.injEq] at h; subst h
    exact ⟨cs, rfl, hc⟩
  | [], _ :: _, c, c', cs, h, hc, hl, _ => by simp at hl
  | _ :: _, [], c, c', cs, h, hc, hl, _ => by simp at hl
  | (i, v) :: ps, (off, m, x) :: qs, c, c', cs, h, hc, hl, hp => by
    simp only [Za2] at h
    split at h
    · rename_i hm
      simp only [Option.bind_eq_some_iff] at h
      obtain ⟨c1, hput, hrest⟩ := h
      obtain ⟨hplace, hvr⟩ := hp 0 _ _ rfl rfl
      obtain ⟨h1, h2, h3⟩ := Znv hput hc hvr
      obtain ⟨cs', h4, h5⟩ := ZfO ps qs hrest h3 (by simpa using hl) (fun j p q hj hq => hp (j + 1) p q (by simpa using hj) (by simpa using hq))
      refine ⟨cs', ?_, h5⟩
      simp only [Instr.fill, hplace]
      rw [if_neg]
      · exact h4
      · simp only [ne_eq, Bool.or_eq_true, decide_eq_true_eq, not_or, Decidable.not_not]
        exact ⟨by rw [h1, hm], Nat.not_lt.2 h2⟩
    · simp at h
section
variable {P : Program} {call : ZS} {a : Act} {w : World} {σ : Nat → EV} {ρ : RM} {h : List Row} {n : Nat}
theorem Zcj (hσ : ∀ t, VR ρ (σ t) (a.tmps.getD t undef)) {t : TypeId} {place : Nat → Option (Nat × Nat)}
    (hpl : ∀ i off s, (match P.underlying t with | some (.struct fs) => (match fs[i]? with | some f => (ZP P f.type).map fun s => (f.offset, s) | none => none) | some (.array _ e) => (ZP P e).map fun s => (i * s, s) | some (.slice e) => (ZP P e).map fun s => (i * s, s) | _ => none) = some (off, s) → place i = some (off, s)) :
    ∀ {ps : List (Nat × Operand)} {qs : List (Nat × Nat × Opd)}, ZcB P t ps = some qs →
      (ps.map fun p => (p.1, a.eval p.2)).length = (Z5 σ qs).length ∧ ∀ (j : Nat) (p : Nat × Value) (q : Nat × Nat × EV), (ps.map fun p => (p.1, a.eval p.2))[j]? = some p → (Z5 σ qs)[j]? = some q → place p.1 = some (q.1, q.2.1) ∧ VR ρ q.2.2 p.2
  | [], qs, h => by simp [ZcB] at h; subst h; exact ⟨rfl, by simp⟩
  | (i, x) :: ps, qs, h => by
    simp only [ZcB] at h
    have step : ∀ {y : Opd} {r : List (Nat × Nat × Opd)} {off s : Nat}, cOpd x = some y → ZcB P t ps = some r → place i = some (off, s) → qs = (off, s, y) :: r →
        (((i, x) :: ps).map fun p => (p.1, a.eval p.2)).length = (Z5 σ qs).length ∧ ∀ (j : Nat) (p : Nat × Value) (q : Nat × Nat × EV), (((i, x) :: ps).map fun p => (p.1, a.eval p.2))[j]? = some p → (Z5 σ qs)[j]? = some q → place p.1 = some (q.1, q.2.1) ∧ VR ρ q.2.2 p.2 := by
      intro y r off s hy hr hp hq
      subst hq
      obtain ⟨h1, h2⟩ := Zcj hσ hpl hr
      refine ⟨by simpa [Z5] using h1, fun j p q hj hq => ?_⟩
      cases j with
      | zero =>
        simp [Z5] at hj hq
        subst hj; subst hq
        exact ⟨hp, ZN hσ hy⟩
      | succ j => exact h2 j p q (by simpa using hj) (by simpa [Z5] using hq)
    split at h
    · rename_i y r fs hy hr hu
      split at h
      · rename_i f hf
        simp only [Option.map_eq_some_iff] at h
        obtain ⟨s, hs, rfl⟩ := h
        exact step hy hr (hpl i f.offset s (by rw [hu]; simp [hf, hs])) rfl
      · simp at h
    · rename_i y r m e hy hr hu
      simp only [Option.map_eq_some_iff] at h
      obtain ⟨s, hs, rfl⟩ := h
      exact step hy hr (hpl i _ s (by rw [hu]; simp [hs])) rfl
    · rename_i y r e hy hr hu
      simp only [Option.map_eq_some_iff] at h
      obtain ⟨s, hs, rfl⟩ := h
      exact step hy hr (hpl i _ s (by rw [hu]; simp [hs])) rfl
    · simp at h
theorem Zav {t : TypeId} {z : Nat} (h : ZP P t = some z) (w : World) : (sizeOf t).run P w = .ok z w := by
  cases hj : P.info? t with
  | none => simp [ZP, hj] at h
  | some j =>
    have hjz : j.size = z := by simpa [ZP, hj] using h
    simp [sizeOf, typeInfo, hj, hjz]
theorem Zc0 {t : TypeId} {z : EV} (h : ZcS P t = some z) (w : World) : ∃ v, (zeroValue t).run P w = .ok v w ∧ ofV v = some z ∧ ∃ i, P.info? t = some i ∧ i.zero = some v := by
  unfold ZcS at h
  simp only [Option.bind_eq_some_iff] at h
  obtain ⟨v, ⟨i, hi, hz⟩, hv⟩ := h
  exact ⟨v, by simp [zeroValue, typeInfo, hi, hz], hv, i, hi, hz⟩
theorem ZmM {t : TypeId} {z : EV} {v : Value} (hv : ofV v = some z) (ha : isAgg z = true) : ∃ cs, v = .agg cs ∧ AR ρ z cs := by
  have hr : VR ρ z v := Zfg hv
  obtain ⟨l, rfl, _⟩ := Zen hr ha
  exact ⟨_, rfl, AR.of hr ha⟩
theorem Zev (w : World) : ∀ (fs : List Field), (∀ f ∈ fs, ∃ s, ZP P f.type = some s) → ∃ l : List (Nat × Nat), (fs.mapM fun f => (do pure (f.offset, ← sizeOf f.type) : Sem (Nat × Nat))).run P w = .ok l w ∧ l.length = fs.length ∧ ∀ (i : Nat) (f : Field), fs[i]? = some f → ∃ s, ZP P f.type = some s ∧ l[i]? = some (f.offset, s)
  | [], _ => ⟨[], by simp, rfl, by simp⟩
  | f :: fs, h => by
    obtain ⟨s, hs⟩ := h f (by simp)
    obtain ⟨l, h1, h2, h3⟩ := Zev w fs (fun f hf => h f (by simp [hf]))
    refine ⟨(f.offset, s) :: l, by simp only [List.mapM_cons, Sem.run_bind, Zav hs, Result.andThen_ok, h1, Sem.run_pure], by simp [h2], fun i g hg => ?_⟩
    cases i with
    | zero => simp at hg; subst hg; exact ⟨s, hs, rfl⟩
    | succ i => simpa using h3 i g (by simpa using hg)
theorem Zhw {o : Oper} {t : TypeId} {ps : Array (Nat × Operand)} (ho : o.op = .build t ps) {z : EV} {qs : List (Nat × Nat × Opd)} (hz : ZcS P t = some z) (hza : isAgg z = true) (hq : ZcB P t ps.toList = some qs) (hsb : Zh3 P t = true)
    (hT : aggT P t = some true) {e : Eff} (he : evOp call n (.build z qs) σ h = some e) (hσ : ∀ t, VR ρ (σ t) (a.tmps.getD t undef)) : Zbd P o a w ρ e := by
  simp only [evOp, Option.map_eq_some_iff] at he
  obtain ⟨v, hv, rfl⟩ := he
  obtain ⟨zv, hzr, hzv, _⟩ := Zc0 hz w
  obtain ⟨cs, rfl, hcs⟩ := ZmM (ρ := ρ) (t := t) hzv hza
  suffices hs : ∃ cs', (Instr.build t (ps.map fun p => (p.1, a.eval p.2))).run P w = .ok (.agg cs') w ∧ AR ρ v cs' by
    obtain ⟨cs', h1, h2⟩ := hs
    refine ⟨.agg cs', ?_, h2.vr, rfl, rfl, rfl⟩
    simp only [execOp, ho, Sem.run_bind, Sem.run_pure]
    rw [show (fun x : Nat × Operand => (x.1, a.eval x.2)) = (fun p => (p.1, a.eval p.2)) from rfl] at *
    simp [h1]
  have hpl : (ps.map fun p => (p.1, a.eval p.2)).toList = ps.toList.map fun p => (p.1, a.eval p.2) := by simp
  unfold aggT at hT
  cases hu : P.underlying t with
  | none => simp [hu] at hT
  | some T =>
    rw [hu] at hT
    cases T <;> simp at hT
    case struct fs =>
      unfold Zh3 at hsb
      rw [hu] at hsb
      simp only [List.all_eq_true] at hsb
      obtain ⟨l, h1, h2, h3⟩ := Zev (P := P) w fs.toList (fun f hf => Option.isSome_iff_exists.1 (hsb f hf))
      have hpo := Zcj (P := P) (place := fun i => l[i]?) hσ (t := t) (fun i off s hi => by
        rw [hu] at hi
        simp only at hi
        split at hi
        · rename_i f hf
          simp only [Option.map_eq_some_iff, Prod.mk.injEq] at hi
          obtain ⟨s', hs', rfl, rfl⟩ := hi
          obtain ⟨s'', hs'', hl⟩ := h3 i f (by simpa using hf)
          rw [hs'] at hs''
          cases hs''
          exact hl
        · simp at hi) hq
      obtain ⟨cs', hf, har⟩ := ZfO _ _ hv hcs hpo.1 hpo.2
      refine ⟨cs', ?_, har⟩
      have hm : (fs.mapM fun f => (do pure (f.offset, ← sizeOf f.type) : Sem (Nat × Nat))).run P w = .ok l.toArray w := by
        rw [Array.mapM_eq_mapM_toList]
        simp only [Sem.run_map, h1, Result.andThen_ok]
      have hf' : Instr.fill (fun i => l.toArray[i]?) cs (ps.toList.map fun p => (p.1, a.eval p.2)) = some cs' := by simpa using hf
      simp only [Instr.build, Sem.run_bind, hzr, Result.andThen_ok, run_underlying hu, hm, Value.cells, hpl, hf']
      rfl
    case array m e' =>
      cases hs : ZP P e' with
      | none => unfold Zh3 at hsb; rw [hu] at hsb; simp [hs] at hsb
      | some s =>
        have hpo := Zcj (P := P) (place := fun i => some (i * s, s)) hσ (t := t) (fun i off s' hi => by
          rw [hu] at hi
          simp only [hs, Option.map_some, Option.some.injEq, Prod.mk.injEq] at hi
          obtain ⟨rfl, rfl⟩ := hi
          rfl) hq
        obtain ⟨cs', hf, har⟩ := ZfO (place := fun i => some (i * s, s)) _ _ hv hcs hpo.1 hpo.2
        refine ⟨cs', ?_, har⟩
        simp only [Instr.build, Sem.run_bind, hzr, Result.andThen_ok, run_underlying hu, Zav hs, Value.cells, hpl, hf]
        rfl
end
end Go.Sx
