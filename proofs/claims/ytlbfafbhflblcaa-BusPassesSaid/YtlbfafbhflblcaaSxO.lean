/-
  A region of the model, in whatever order, does what the abstract machine does in the order of the text. Conditions: none.
-/
import Derived.Test.YtlbfafbhflblcaaSxN
import Derived.Test.YtlbfafbhflblcaaSx2
import Derived.Orders
namespace Go.Sx
open Go
set_option linter.unusedVariables false
set_option linter.unusedSimpArgs false
theorem HRT.reindex {w0 w : World} {S : List Nat} {ρ : RM} {h : List Row} (hT : HRT w0 S ρ h w) {h2 : List Row} {src : Nat → Nat} {to : Nat → Option Nat}
    (h1 : ∀ j, j < h2.length → h2[j]? = some (Zr to (Zo h (src j))))
    (hto : ∀ i j, to i = some j → j < h2.length ∧ src j = i) (hinj : ∀ j k, j < h2.length → k < h2.length → src j = src k → j = k) :
    ∃ ρ2 : RM, (∀ j, ρ2 j = if j < h2.length then ρ (src j) else none) ∧ HRT w0 S ρ2 h2 w ∧ (∀ r s l, to r = some s → ρ r = some l → ρ2 s = some l ∨ ρ2 s = some none) ∧ leF ρ.F ρ2.F ∧ ρ2.F = ρ.F ∧ ρ2.F0 = ρ.F0 := by
  obtain ⟨hh, μ, tg, ht⟩ := hT
  obtain ⟨ρ2, q1, q2, q3⟩ := hh.reindex h1 hto hinj
  refine ⟨ρ2, q1, ⟨q2, ?_⟩, q3⟩
  have hrow : ∀ (j : Nat) (row : Row), h2[j]? = some row → j < h2.length ∧ row = Zr to (Zo h (src j)) ∧ (h[src j]? = some (Zo h (src j)) ∨ (h[src j]? = none ∧ Zo h (src j) = ⟨false, .unk⟩)) := by
    intro j row hj
    have hlt : j < h2.length := (List.getElem?_eq_some_iff.1 hj).1
    rw [h1 j hlt] at hj
    refine ⟨hlt, by simpa using hj.symm, ?_⟩
    unfold Zo
    rw [List.getD_eq_getElem?_getD]
    cases hx : h[src j]? with
    | none => exact .inr ⟨rfl, rfl⟩
    | some r => exact .inl rfl
  classical
  let num : Nat → Option Nat := fun q => if hq : ∃ j, j < h2.length ∧ src j = q then some hq.choose else none
  have hnum : ∀ j, j < h2.length → num (src j) = some j := fun j hj => by
    have hq : ∃ k, k < h2.length ∧ src k = src j := ⟨j, hj, rfl⟩
    simp only [num]
    rw [dif_pos hq]
    have := hq.choose_spec
    rw [hinj _ _ this.1 hj this.2]
  refine ⟨fun j => μ (src j), fun b => (tg b).bind fun x => (num x.1).map fun j => (j, x.2), fun j row hj ht1 => ?_, fun j z els hj => ?_, fun j row L hj ht1 hL => ?_, fun b x hx => ?_⟩
  · obtain ⟨hlt, rfl, hg⟩ := hrow j row hj
    have ht2 : Zw (Zo h (src j)).c = true := by rw [← ZaL to]; exact ht1
    rcases hg with hg | ⟨_, hg⟩
    · have := ht.ro _ _ hg ht2
      simpa [Zr] using this
    · rw [hg] at ht2; cases ht2
  · obtain ⟨hlt, hr, hg⟩ := hrow j _ hj
    have hr2 := ZcL hr
    rcases hg with hg | ⟨_, hg⟩
    · rw [hr2] at hg
      obtain ⟨L, a1, a2, a3, a4, a5, a6⟩ := ht.list _ z els hg
      refine ⟨L, by rw [q1 j, if_pos hlt]; exact a1, a2, by simp only [a3, Option.bind_some, hnum j hlt, Option.map_some], a4, a5, fun i m hm => (a6 i m hm).mono fun b hb => ?_⟩
      simp only [hb, Option.bind_some, hnum j hlt, Option.map_some]
    · rw [hg] at hr2; cases hr2
  · obtain ⟨hlt, rfl, hg⟩ := hrow j row hj
    rw [q1 j, if_pos hlt] at hL
    have ht2 : Zw (Zo h (src j)).c = false := by rw [← ZaL to]; exact ht1
    rcases hg with hg | ⟨hg, _⟩
    · rw [ht.out _ _ L hg ht2 hL]; rfl
    · rw [hh.out _ hg] at hL; cases hL
  · cases hb : tg b with
    | none => rw [hb] at hx; cases hx
    | some y =>
      obtain ⟨b1, b2, b3⟩ := ht.inn b y hb
      exact ⟨b1, by rw [q3.2.2.1]; exact b2, b3⟩
theorem HR.slots {w0 w : World} {S : List Nat} {ρ : RM} {h : List Row} (hh : HR w0 S ρ h w) (k : Nat) : HR w0 S ρ (h ++ List.replicate k ⟨false, .unk⟩) w := by
  have key : ∀ (i : Nat) (row : Row), (h ++ List.replicate k (⟨false, .unk⟩ : Row))[i]? = some row → h[i]? = some row ∨ (h[i]? = none ∧ row = ⟨false, .unk⟩) := by
    intro i row hi
    by_cases hlt : i < h.length
    · rw [List.getElem?_append_left hlt] at hi; exact .inl hi
    · rw [List.getElem?_append_right (by omega)] at hi
      rw [List.getElem?_replicate] at hi
      split at hi
      · simp only [Option.some.injEq] at hi
        exact .inr ⟨List.getElem?_eq_none (by omega), hi.symm⟩
      · cases hi
  refine ⟨fun i hi => hh.out i ?_, fun i row hi => ?_, hh.lt, fun i row L hi ho hL => ?_, fun i j ri Li Lj hi hne ho hLi hLj => ?_, hh.frame, hh.froz, fun i row L hi ho hL => ?_, hh.cold⟩
  · rw [List.getElem?_eq_none_iff] at hi ⊢
    simp at hi
    omega
  · rcases key i row hi with h1 | ⟨h1, rfl⟩
    · exact hh.rows i row h1
    · exact .inl ⟨rfl, by simpa using hh.out i h1⟩
  · rcases key i row hi with h1 | ⟨h1, rfl⟩
    · exact hh.own i row L h1 ho hL
    · cases ho
  · rcases key i ri hi with h1 | ⟨h1, rfl⟩
    · exact hh.apart i j ri Li Lj h1 hne ho hLi hLj
    · cases ho
  · rcases key i row hi with h1 | ⟨h1, rfl⟩
    · exact hh.ice i row L h1 ho hL
    · cases ho
theorem HRT.slots {w0 w : World} {S : List Nat} {ρ : RM} {h : List Row} (hT : HRT w0 S ρ h w) (k : Nat) : HRT w0 S ρ (h ++ List.replicate k ⟨false, .unk⟩) w := by
  obtain ⟨hh, μ, tg, ht⟩ := hT
  have key : ∀ (i : Nat) (row : Row), (h ++ List.replicate k (⟨false, .unk⟩ : Row))[i]? = some row → h[i]? = some row ∨ (h[i]? = none ∧ row = ⟨false, .unk⟩) := by
    intro i row hi
    by_cases hlt : i < h.length
    · rw [List.getElem?_append_left hlt] at hi; exact .inl hi
    · rw [List.getElem?_append_right (by omega)] at hi
      rw [List.getElem?_replicate] at hi
      split at hi
      · simp only [Option.some.injEq] at hi
        exact .inr ⟨List.getElem?_eq_none (by omega), hi.symm⟩
      · cases hi
  refine ⟨hh.slots k, μ, tg, fun r row hr h1 => ?_, fun r z els hr => ?_, fun i row L hi h1 hL => ?_, ht.inn⟩
  · rcases key r row hr with h2 | ⟨_, rfl⟩
    · exact ht.ro r row h2 h1
    · rfl
  · rcases key r _ hr with h2 | ⟨_, h2⟩
    · exact ht.list r z els h2
    · cases h2
  · rcases key i row hi with h2 | ⟨h2, rfl⟩
    · exact ht.out i row L h2 h1 hL
    · rw [hh.out i h2] at hL; cases hL
theorem HRT.drew {w0 w : World} {S : List Nat} {ρ : RM} {h : List Row} (hT : HRT w0 S ρ h w) (n : Nat) : HRT w0 S ρ h { w with drawn := n } := by
  obtain ⟨hh, μ, tg, ht⟩ := hT
  refine ⟨hh.drew n, μ, tg, ht.ro, fun r z els hr => ?_, ht.out, ht.inn⟩
  obtain ⟨L, a1, a2, a3, a4, a5, a6⟩ := ht.list r z els hr
  exact ⟨L, a1, a2, a3, a4, a5, fun i m hm => (a6 i m hm).keep (hh.drew n).frame (Nat.le_refl _) rfl fun b hb => rfl⟩
theorem HR.fr {w0 w w' : World} {S : List Nat} {ρ : RM} {h : List Row} (hh : HR w0 S ρ h w) (hf : Fr w [] w') : HR w0 S ρ h w' := by
  have hb : ∀ b, b < w.heap.size → w'.heap[b]? = w.heap[b]? := fun b hb => hf.block b hb (by simp)
  refine ⟨hh.out, fun i row hi => ?_, fun i L hL => Nat.lt_of_lt_of_le (hh.lt i L hL) hf.size, hh.own, hh.apart, ⟨hf.os.trans hh.frame.os, hf.tape.trans hh.frame.tape, hf.output.trans hh.frame.output, Nat.le_trans hh.frame.size hf.size, fun b h1 h2 => (hb b (Nat.lt_of_lt_of_le h1 hh.frame.size)).trans (hh.frame.block b h1 h2)⟩, fun b o h => (hb b (hh.froz_lt h)).trans (hh.froz b o h), hh.ice, hh.cold⟩
  rcases hh.rows i row hi with h | ⟨L, hL, hR⟩
  · exact .inl h
  · exact .inr ⟨L, hL, hR.same (hb _ (hh.lt i L hL))⟩
theorem HRT.fr {w0 w w' : World} {S : List Nat} {ρ : RM} {h : List Row} (hT : HRT w0 S ρ h w) (hf : Fr w [] w') : HRT w0 S ρ h w' := by
  obtain ⟨hh, μ, tg, ht⟩ := hT
  have hb : ∀ b, b < w.heap.size → w'.heap[b]? = w.heap[b]? := fun b hb => hf.block b hb (by simp)
  have hR := hh.fr hf
  refine ⟨hR, μ, tg, ht.ro, fun r z els hr => ?_, ht.out, fun b x hx => ?_⟩
  · obtain ⟨L, a1, a2, a3, ⟨c, t, a4, a5, a6⟩, a7, a8⟩ := ht.list r z els hr
    have hL := hb _ (ht.inn _ _ a3).1
    refine ⟨L, a1, a2, a3, ⟨c, t, hL.trans a4, a5, a6⟩, fun hz i hi => ?_, fun i m hm => (a8 i m hm).keep hR.frame hf.size hL fun b hb' => hb b (ht.inn b _ hb').1⟩
    have := a7 hz i hi
    simpa [World.cell?, hL] using this
  · obtain ⟨b1, b2, b3⟩ := ht.inn b x hx
    exact ⟨Nat.lt_of_lt_of_le b1 hf.size, b2, b3⟩
structure SR (ds : List Deferred) (n m : Nat) (ρ0 : RM) (w0 : World) (S : List Nat) (ρ : RM) (st : St) (a : Act) (w : World) : Prop where
  keep : ∀ i, i < m → i ∉ st.gone → ρ i = ρ0 i ∨ ρ i = some none
  pos : ∀ i, i < m → ρ0 i ≠ none
  long : m ≤ st.heap.length
  env : ∀ t, VR ρ (lk st.env t) (a.tmps.getD t undef)
  heap : HRT w0 S ρ st.heap w
  size : a.tmps.size = n
  defers : a.defers = ds
  ms : st.m = m
  ice : leF ρ0.F ρ.F ∧ ρ.F0 = ρ0.F0
def Rel (P : Program) (n : Nat) (ops : Array Oper) (o : Oper) (so : SOp) : Prop :=
  cOp P o.op = some so.op ∧ so.dst = o.dst ∧ (∀ d, o.dst = some d → d < n) ∧
    (match o.guard, so.guard with | none, none => True | some (j, b), some (t, b') => b = b' ∧ (ops[j]?).bind (·.dst) = some t | _, _ => False)
theorem ZgQ {P : Program} {n : Nat} {ops : Array Oper} : ∀ {s : Nat} {l : List Oper} {r : List SOp}, cOps P n ops s l = some r → r.length = l.length ∧ ∀ (i : Nat) (o : Oper) (so : SOp), l[i]? = some o → r[i]? = some so → Rel P n ops o so
  | s, [], r, h => by simp [cOps] at h; subst h; exact ⟨rfl, by simp⟩
  | s, o :: l, r, h => by
    simp only [cOps] at h
    split at h
    · cases h
    · rename_i so hso
      split at h
      · cases h
      · rename_i r' hr'
        obtain ⟨h1, h2⟩ := ZgQ hr'
        split at h
        · rename_i hd
          have hd' : ∀ d, o.dst = some d → d < n := fun d hd' => by rw [hd'] at hd; simpa [Znn] using hd
          split at h
          · rename_i hg
            simp only [Option.some.injEq] at h; subst h
            refine ⟨by simp [h1], fun i o' so' hi hi' => ?_⟩
            cases i with
            | zero =>
              simp at hi hi'
              subst hi; subst hi'
              exact ⟨hso, rfl, hd', by rw [hg]; trivial⟩
            | succ i => exact h2 i o' so' (by simpa using hi) (by simpa using hi')
          · rename_i j b hg
            split at h
            · rename_i t ht
              simp only [Option.some.injEq] at h; subst h
              refine ⟨by simp [h1], fun i o' so' hi hi' => ?_⟩
              cases i with
              | zero =>
                simp at hi hi'
                subst hi; subst hi'
                exact ⟨hso, rfl, hd', by rw [hg]; exact ⟨rfl, ht⟩⟩
              | succ i => exact h2 i o' so' (by simpa using hi) (by simpa using hi')
            · cases h
        · cases h
theorem Ziz : ∀ (e : Env) (d : Nat) (v : EV), lk (up e d v) d = v ∨ lk (up e d v) d = .unk
  | [], d, v => .inr rfl
  | (s, u) :: r, d, v => by
    simp only [Zdn, Ze6]
    by_cases h : d = s
    · subst h; left; simp [ZaT, ZbT]
    · rw [if_neg h]
      simp only [ZaT, ZbT, if_neg h]
      exact Ziz r d v
section
variable {P : Program} {call : ZS} {ds : List Deferred} {base n m : Nat} {ρ0 : RM} {w0 : World} {S : List Nat}
theorem SR.put {ρ ρ' : RM} {st : St} {a : Act} {w w' : World} {d : Option Nat} {e : Eff} {v : Value} (hr : SR ds n m ρ0 w0 S ρ st a w) (hl : le ρ ρ') (hv : VR ρ' e.v v) (hd : ∀ t, d = some t → t < n) (hh : HRT w0 S ρ' (e.upd.foldl setRow st.heap ++ e.news) w') :
    SR ds n m ρ0 w0 S ρ' (Zt st d e) (a.put d v) w' := by
  refine ⟨fun i hi hg => ?_, hr.pos, by simp only [Zt, List.length_append, ZY]; have := hr.long; omega, fun t => ?_, hh, ?_, ?_, hr.ms, ⟨fun b o hb => hl.2.1 b o (hr.ice.1 b o hb), hl.2.2.trans hr.ice.2⟩⟩
  · rcases hr.keep i hi hg with h | h
    · cases h0 : ρ0 i with
      | none => exact absurd h0 (hr.pos i hi)
      | some l =>
        rw [h0] at h
        exact hl.1 i l h
    · rcases hl.1 i none h with h | h <;> exact .inr h
  · cases d with
    | none => exact ZcH hl _ _ (hr.env t)
    | some d =>
      have hdn := hd d rfl
      simp only [Zt, Act.put]
      by_cases ht : t = d
      · subst ht
        rcases Ziz st.env t e.v with h | h
        · rw [h]
          have : (a.tmps.setIfInBounds t v).getD t undef = v := by
            simp [hr.size, hdn]
          rw [this]
          exact hv
        · rw [h]; simp [VR]
      · rw [ZfV _ _ ht]
        have : (a.tmps.setIfInBounds d v).getD t undef = a.tmps.getD t undef := by
          simp [Array.getElem?_setIfInBounds_ne (Ne.symm ht)]
        rw [this]
        exact ZcH hl _ _ (hr.env t)
  · cases d with
    | none => exact hr.size
    | some d => simp [Act.put, hr.size]
  · cases d with
    | none => exact hr.defers
    | some d => exact hr.defers
theorem ZiA {ρ : RM} : VR ρ (.tup []) undef := ⟨[], rfl, rfl⟩
theorem ZhD {ρ : RM} {v : Value} (h : VR ρ (.tup []) v) : v = undef := by
  obtain ⟨cs, rfl, hc⟩ := h
  cases (hc : cs = [])
  rfl
theorem Zkq {ops : Array Oper} {i : Nat} {o : Oper} {so : SOp} {st : St} {ρ : RM} {a : Act} {w : World} {e : Eff} {Q : Exit → Act → World → Prop} {K : Act → World → Prop} (ho : ops[i]? = some o) (hrel : Rel P n ops o so) (hcall : ZaK P call)
    (hcan : ∀ f args h r, call f args h = some r → Zl P f = true) (he : Zaj call base so st = some e) (hr : SR ds n m ρ0 w0 S ρ st a w) (hK : ∀ a' w' ρ', SR ds n m ρ0 w0 S ρ' (Zt st so.dst e) a' w' → K a' w') : wpOp P ops Q i K a w := by
  obtain ⟨hop, hdst, hdn, hg⟩ := hrel
  have hdo : ∀ t, so.dst = some t → t < n := fun t h => hdn t (by rw [← hdst]; exact h)
  have run : evOp call (base + so.slot) so.op (lk st.env) st.heap = some e → Region.wanted o (yielded ops a.tmps) = true → wpOp P ops Q i K a w := by
    intro hev hw
    unfold wpOp
    rw [ho]
    simp only [hw, if_true]
    left
    refine ZnA (w0 := w0) (S := S) hop hr.env hr.heap hcall hcan hev K Q fun v w' ρ' hl hv hh => ?_
    rw [← hdst]
    exact hK _ _ ρ' (hr.put hl hv hdo hh)
  unfold Zaj at he
  cases hog : o.guard with
  | none =>
    rw [hog] at hg
    cases hsg : so.guard with
    | some g => rw [hsg] at hg; exact hg.elim
    | none =>
      rw [hsg] at he
      exact run he (by simp [Region.wanted, hog])
  | some g =>
    obtain ⟨j, b⟩ := g
    rw [hog] at hg
    cases hsg : so.guard with
    | none => rw [hsg] at hg; exact hg.elim
    | some g' =>
      obtain ⟨t, b'⟩ := g'
      rw [hsg] at hg he
      obtain ⟨rfl, ht⟩ := hg
      simp only at he
      split at he
      · rename_i bv hbv
        have hval := hr.env t
        rw [hbv] at hval
        have hval' := Za8 hval
        have hy : yielded ops a.tmps j = some bv := by
          unfold yielded
          rw [ht]
          simp only [Option.bind_some]
          have : a.tmps[t]? = some (.bool bv) := by
            rw [Array.getD_eq_getD_getElem?] at hval'
            cases hx : a.tmps[t]? with
            | none => rw [hx] at hval'; simp [undef] at hval'
            | some v => rw [hx] at hval'; simp at hval'; rw [hval']
          rw [this]
        split at he
        · rename_i hbb
          subst hbb
          exact run he (by simp [Region.wanted, hog, hy])
        · rename_i hbb
          simp only [Option.some.injEq] at he; subst he
          have hw : Region.wanted o (yielded ops a.tmps) = false := by
            simp only [Region.wanted, hog, hy]
            simp [hbb]
          unfold wpOp
          rw [ho]
          simp only [hw, Bool.false_eq_true, if_false]
          rw [← hdst]
          exact hK _ _ ρ (hr.put (le_refl _) ZiA hdo (by simpa using hr.heap))
      · rename_i htv
        simp only [Option.some.injEq] at he; subst he
        have hval := hr.env t
        rw [htv] at hval
        have hval' := ZhD hval
        have hy : yielded ops a.tmps j = none := by
          unfold yielded
          rw [ht]
          simp only [Option.bind_some]
          rw [Array.getD_eq_getD_getElem?] at hval'
          cases hx : a.tmps[t]? with
          | none => rfl
          | some v => rw [hx] at hval'; simp only [Option.getD_some] at hval'; rw [hval']; rfl
        have hw : Region.wanted o (yielded ops a.tmps) = false := by
          simp only [Region.wanted, hog, hy]
          rfl
        unfold wpOp
        rw [ho]
        simp only [hw, Bool.false_eq_true, if_false]
        rw [← hdst]
        exact hK _ _ ρ (hr.put (le_refl _) ZiA hdo (by simpa using hr.heap))
      · cases he
theorem ZiB {ops : Array Oper} {l : List SOp} {Q : Exit → Act → World → Prop} (hlen : l.length = ops.size) (hrel : ∀ (i : Nat) (o : Oper) (so : SOp), ops[i]? = some o → l[i]? = some so → Rel P n ops o so) (hcall : ZaK P call)
    (hcan : ∀ f args h r, call f args h = some r → Zl P f = true) : ∀ (ix : List Nat) (st st' : St) (recs : List (Nat × List Nat)) (ρ : RM) (a : Act) (w : World), Zcw call base l ix st = some (st', recs) → SR ds n m ρ0 w0 S ρ st a w →
      (∀ a' w' ρ', SR ds n m ρ0 w0 S ρ' st' a' w' → Q .normal a' w') → wpOps P ops Q ix a w
  | [], st, st', recs, ρ, a, w, h, hr, hQ => by
    simp only [Zcw, Option.some.injEq, Prod.mk.injEq] at h
    obtain ⟨rfl, _⟩ := h
    simp only [wpOps]
    exact hQ a w ρ hr
  | i :: ix, st, st', recs, ρ, a, w, h, hr, hQ => by
    obtain ⟨so, e, s1, r1, hl, he, hrest, hx⟩ := Zcm h
    cases hx
    have hi : i < ops.size := by rw [← hlen]; exact (List.getElem?_eq_some_iff.1 hl).1
    have ho : ops[i]? = some ops[i] := Array.getElem?_eq_getElem hi
    rw [wpOps_cons]
    exact Zkq ho (hrel i _ so ho hl) hcall hcan he hr fun a' w' ρ' hr' => ZiB hlen hrel hcall hcan ix _ st' r1 ρ' a' w' hrest hr' hQ
theorem ZgR {e : Edge} (h : Region.binds .any e = true) (md : Region.Mode) : Region.binds md e = true := by
  unfold Region.binds at h ⊢
  split <;> simp_all
theorem ZgS : ∀ (l : List Oper) (acc : List Nat), ∃ r, ancs l acc = acc ++ r ∧ r.length = l.length ∧ ∀ (j : Nat) (o : Oper), l[j]? = some o →
    r[j]? = some (o.after.toList.foldl (fun s e => if Region.binds .any e then s ||| 2 ^ e.on ||| (ancs l acc).getD e.on 0 else s) 0) ∨ ∃ e ∈ o.after.toList, Region.binds .any e = true ∧ acc.length + j ≤ e.on
  | [], acc => ⟨[], by simp [ancs], rfl, by simp⟩
  | o :: l, acc => by
    simp only [ancs]
    generalize hv : o.after.toList.foldl (fun s e => if Region.binds .any e then s ||| 2 ^ e.on ||| acc.getD e.on 0 else s) 0 = v
    obtain ⟨r, h1, h2, h3⟩ := ZgS l (acc ++ [v])
    refine ⟨v :: r, by rw [h1]; simp, by simp [h2], fun j o' hj => ?_⟩
    cases j with
    | zero =>
      simp at hj
      subst hj
      by_cases hb : ∃ e ∈ o.after.toList, Region.binds .any e = true ∧ acc.length + 0 ≤ e.on
      · exact .inr hb
      · left
        simp only [List.getElem?_cons_zero]
        have : ∀ (es : List Edge) (s : Nat), (∀ e ∈ es, ¬ (Region.binds .any e = true ∧ acc.length ≤ e.on)) →
            es.foldl (fun s e => if Region.binds .any e then s ||| 2 ^ e.on ||| acc.getD e.on 0 else s) s = es.foldl (fun s e => if Region.binds .any e then s ||| 2 ^ e.on ||| (ancs l (acc ++ [v])).getD e.on 0 else s) s := by
          intro es
          induction es with
          | nil => intro s _; rfl
          | cons e es ih =>
            intro s hs
            simp only [List.foldl_cons]
            have he := hs e (by simp)
            by_cases hbe : Region.binds .any e = true
            · have hlt : e.on < acc.length := by
                rcases Nat.lt_or_ge e.on acc.length with h | h
                · exact h
                · exact absurd ⟨hbe, h⟩ he
              have hg : (ancs l (acc ++ [v])).getD e.on 0 = acc.getD e.on 0 := by
                rw [h1]
                simp only [List.getD_eq_getElem?_getD, List.append_assoc]
                rw [List.getElem?_append_left hlt]
              simp only [hbe, if_true, hg]
              exact ih _ (fun e he => hs e (by simp [he]))
            · simp only [hbe, Bool.false_eq_true, if_false]
              exact ih _ (fun e he => hs e (by simp [he]))
        exact congrArg some (hv.symm.trans (this _ _ (fun e he hc => hb ⟨e, he, hc.1, by simpa using hc.2⟩)))
    | succ j =>
      simp only [List.getElem?_cons_succ] at hj ⊢
      rcases h3 j o' hj with h | ⟨e, he, hb, hl⟩
      · exact .inl h
      · exact .inr ⟨e, he, hb, by simp at hl; omega⟩
theorem ZbK : ∀ (l : List Oper) (k : Nat), Zce k l = true → ∀ (j : Nat) (o : Oper), l[j]? = some o → ∀ e ∈ o.after.toList, Region.binds .any e = true → e.on < k + j
  | [], k, _, j, o, hj => by simp at hj
  | o :: l, k, h, j, o', hj => by
    simp only [Zce, Bool.and_eq_true] at h
    cases j with
    | zero =>
      simp at hj
      subst hj
      intro e he hb
      have := List.all_eq_true.1 h.1 e he
      simpa [hb] using this
    | succ j =>
      intro e he hb
      have := ZbK l (k + 1) h.2 j o' (by simpa using hj) e he hb
      omega
theorem ZdL (A : List Nat) : ∀ (es : List Edge) (s : Nat) (i : Nat), (es.foldl (fun s e => if Region.binds .any e then s ||| 2 ^ e.on ||| A.getD e.on 0 else s) s).testBit i = true → s.testBit i = true ∨ ∃ e ∈ es, Region.binds .any e = true ∧ (e.on = i ∨ (A.getD e.on 0).testBit i = true)
  | [], s, i, h => .inl h
  | e :: es, s, i, h => by
    simp only [List.foldl_cons] at h
    rcases ZdL A es _ i h with h1 | ⟨e', he', h1⟩
    · by_cases hb : Region.binds .any e = true
      · simp only [hb, if_true, Nat.testBit_or, Bool.or_eq_true] at h1
        rcases h1 with (h1 | h1) | h1
        · exact .inl h1
        · right
          refine ⟨e, by simp, hb, .inl ?_⟩
          rw [Nat.testBit_two_pow] at h1
          simpa using h1
        · exact .inr ⟨e, by simp, hb, .inr h1⟩
      · simp only [hb, Bool.false_eq_true, if_false] at h1
        exact .inl h1
    · exact .inr ⟨e', by simp [he'], h1⟩
theorem Zjp {ops : Array Oper} (hb : Zce 0 ops.toList = true) {L : Nat → Prop} (hdown : ∀ (j : Nat) (o : Oper), L j → ops[j]? = some o → ∀ e ∈ o.after.toList, Region.binds .any e = true → L e.on) :
    ∀ (j : Nat) (o : Oper), ops[j]? = some o → (∀ e ∈ o.after.toList, Region.binds .any e = true → L e.on) → ∀ i, ((ancs ops.toList []).getD j 0).testBit i = true → L i := by
  intro j
  induction j using Nat.strongRecOn with
  | _ j ih =>
    intro o ho hdeps i hi
    obtain ⟨r, h1, h2, h3⟩ := ZgS ops.toList []
    have hol : ops.toList[j]? = some o := by simpa using ho
    rcases h3 j o hol with h | ⟨e, he, hbe, hle⟩
    · have hg : (ancs ops.toList []).getD j 0 = o.after.toList.foldl (fun s e => if Region.binds .any e then s ||| 2 ^ e.on ||| (ancs ops.toList []).getD e.on 0 else s) 0 := by
        rw [List.getD_eq_getElem?_getD]
        conv => lhs; rw [h1]
        simp only [List.nil_append, h, Option.getD_some]
      rw [hg] at hi
      rcases ZdL _ _ _ _ hi with h4 | ⟨e, he, hbe, h4⟩
      · simp at h4
      · have hlt := ZbK _ _ hb j o hol e he hbe
        have hLe := hdeps e he hbe
        rcases h4 with h4 | h4
        · rw [← h4]; exact hLe
        · have hsz : e.on < ops.size := by
            have : j < ops.size := (Array.getElem?_eq_some_iff.1 ho).1
            omega
          exact ih e.on (by omega) _ (Array.getElem?_eq_getElem hsz) (hdown _ _ hLe (Array.getElem?_eq_getElem hsz)) i h4
    · have := ZbK _ _ hb j o hol e he hbe
      simp at hle
      omega
theorem ZeJ {md : Region.Mode} {mask : Nat} : ∀ (l : List Oper) (k i : Nat), Zgr md mask k l = some i → k ≤ i ∧ mask.testBit i = false ∧ ∃ o, l[i - k]? = some o ∧ ZjL md mask o = true
  | [], k, i, h => by simp [Zgr] at h
  | o :: l, k, i, h => by
    simp only [Zgr] at h
    split at h
    · rename_i hc
      simp only [Bool.and_eq_true, Bool.not_eq_true'] at hc
      simp only [Option.some.injEq] at h; subst h
      exact ⟨Nat.le_refl _, hc.1, o, by simp, hc.2⟩
    · obtain ⟨h1, h2, o', h3, h4⟩ := ZeJ l (k + 1) i h
      refine ⟨by omega, h2, o', ?_, h4⟩
      have : i - k = (i - (k + 1)) + 1 := by omega
      rw [this]
      simpa using h3
theorem ZgT {md : Region.Mode} {l : List Oper} {L : Nat → Prop} [DecidablePred L] : ∀ (n mask : Nat), Ze1 md l n mask = true → (∀ i, mask.testBit i = true → L i) → (∃ i, i < l.length ∧ ¬ L i) → ∃ i o, l[i]? = some o ∧ ¬ L i ∧ ∀ e ∈ o.after.toList, Region.binds md e = true → L e.on
  | 0, mask, h, hm, ⟨i, hi, hni⟩ => by
    simp only [Ze1, List.all_eq_true] at h
    exact absurd (hm i (h i (List.mem_range.2 hi))) hni
  | n + 1, mask, h, hm, hex => by
    simp only [Ze1] at h
    split at h
    · rename_i i hi
      obtain ⟨_, h2, o, h3, h4⟩ := ZeJ l 0 i hi
      by_cases hL : L i
      · refine ZgT n _ h (fun j hj => ?_) hex
        simp only [Nat.testBit_or, Bool.or_eq_true] at hj
        rcases hj with hj | hj
        · exact hm j hj
        · rw [Nat.testBit_two_pow] at hj
          have : i = j := by simpa using hj
          rw [← this]; exact hL
      · refine ⟨i, o, by simpa using h3, hL, fun e he hb => hm _ ?_⟩
        have := List.all_eq_true.1 h4 e he
        simpa [hb] using this
    · obtain ⟨i, hi, hni⟩ := hex
      exact absurd (hm i (List.all_eq_true.1 h i (List.mem_range.2 hi))) hni
theorem Zfq {N : Nat} {listed : Array Bool} (hsz : listed.size = N) {i k : Nat} (hi : i < N) : (listed.setIfInBounds i true)[k]? = some true ↔ k = i ∨ listed[k]? = some true := by
  by_cases h : i = k
  · subst h
    simp [hsz, hi]
  · rw [Array.getElem?_setIfInBounds_ne h]
    constructor
    · exact .inr
    · rintro (h' | h')
      · exact absurd h'.symm h
      · exact h'
theorem ZnB {md : Region.Mode} {ops : Array Oper} {l : List SOp} {Q : Exit → Act → World → Prop} (hlen : l.length = ops.size) (hrel : ∀ (i : Nat) (o : Oper) (so : SOp), ops[i]? = some o → l[i]? = some so → Rel P n ops o so) (hcall : ZaK P call)
    (hcan : ∀ f args h r, call f args h = some r → Zl P f = true) (hback : Zce 0 ops.toList = true) (htopo : Ze1 md ops.toList ops.size 0 = true) (st' : St) (hQ : ∀ a' w' ρ', SR ds n m ρ0 w0 S ρ' st' a' w' → Q .normal a' w') :
    ∀ (fuel : Nat) (listed : Array Bool) (rest : List Nat) (st : St) (recs : List (Nat × List Nat)) (ρ : RM) (a : Act) (w : World), Zcw call base l rest st = some (st', recs) → listed.size = ops.size →
      (∀ i, i ∈ rest ↔ i < ops.size ∧ listed[i]? ≠ some true) → rest.Pairwise (· < ·) → rest.length ≤ fuel →
      (∀ (j : Nat) (o : Oper), listed[j]? = some true → ops[j]? = some o → ∀ e ∈ o.after.toList, Region.binds .any e = true → listed[e.on]? = some true) →
      (∀ i j Ti Tj, (i, Ti) ∈ recs → (j, Tj) ∈ recs → i < j → ((ancs ops.toList []).getD j 0).testBit i = false → Zmv l i j Ti Tj) →
      SR ds n m ρ0 w0 S ρ st a w → wpAny P md ops Q fuel listed a w := by
  have hready : ∀ (listed : Array Bool), listed.size = ops.size → ∀ i, i ∈ Region.ready md ops listed ↔ i < ops.size ∧ listed[i]? ≠ some true ∧ ∀ o, ops[i]? = some o → ∀ e ∈ o.after.toList, Region.binds md e = true → listed[e.on]? = some true := by
    intro listed hsz i
    simp only [Region.ready, List.mem_filter, List.mem_range, Bool.and_eq_true, Bool.not_eq_true']
    constructor
    · rintro ⟨h1, h2, h3⟩
      refine ⟨h1, fun h => ?_, fun o ho e he hb => ?_⟩
      · rw [Array.getD_eq_getD_getElem?, h] at h2; simp at h2
      · rw [ho] at h3
        simp only [Option.map_some, Option.getD_some, Array.all_eq_true_iff_forall_mem] at h3
        have := h3 e (Array.mem_toList_iff.1 he)
        simp only [hb, Bool.not_true, Bool.false_or, Array.getD_eq_getD_getElem?] at this
        cases hx : listed[e.on]? with
        | none => rw [hx] at this; simp at this
        | some b => rw [hx] at this; simp at this; rw [this]
    · rintro ⟨h1, h2, h3⟩
      refine ⟨h1, ?_, ?_⟩
      · rw [Array.getD_eq_getD_getElem?, Array.getElem?_eq_getElem (by rw [hsz]; exact h1)]
        simp only [Option.getD_some]
        cases hb : listed[i]'(by rw [hsz]; exact h1) with
        | false => rfl
        | true => exact absurd (by rw [Array.getElem?_eq_getElem (by rw [hsz]; exact h1), hb]) h2
      · rw [Array.getElem?_eq_getElem h1]
        simp only [Option.map_some, Option.getD_some, Array.all_eq_true_iff_forall_mem]
        intro e he
        by_cases hb : Region.binds md e = true
        · have := h3 _ (Array.getElem?_eq_getElem h1) e (Array.mem_toList_iff.2 he) hb
          simp [hb, Array.getD_eq_getD_getElem?, this]
        · simp [hb]
  intro fuel
  induction fuel with
  | zero =>
    intro listed rest st recs ρ a w hrun hsz hrest hsorted hfuel hdown hcomp hr
    have hnil : rest = [] := List.length_eq_zero_iff.1 (by omega)
    subst hnil
    simp only [Zcw, Option.some.injEq, Prod.mk.injEq] at hrun
    obtain ⟨rfl, _⟩ := hrun
    refine ⟨?_, hQ a w ρ hr⟩
    rw [List.eq_nil_iff_forall_not_mem]
    intro i hi
    obtain ⟨h1, h2, _⟩ := (hready listed hsz i).1 hi
    have := (hrest i).2 ⟨h1, h2⟩
    cases this
  | succ fuel ih =>
    intro listed rest st recs ρ a w hrun hsz hrest hsorted hfuel hdown hcomp hr
    refine ⟨fun hnil => ?_, fun i hi => ?_⟩
    · have hrn : rest = [] := by
        rw [List.eq_nil_iff_forall_not_mem]
        intro k hk
        obtain ⟨hk1, hk2⟩ := (hrest k).1 hk
        obtain ⟨j, o, hj, hjn, hdep⟩ := ZgT (md := md) (l := ops.toList) (L := fun j => listed[j]? = some true) ops.size 0 htopo (fun i hi => by simp at hi) ⟨k, by simpa using hk1, hk2⟩
        have hj' : ops[j]? = some o := by simpa using hj
        have : j ∈ Region.ready md ops listed := (hready listed hsz j).2 ⟨(Array.getElem?_eq_some_iff.1 hj').1, hjn, fun o' ho' e he hb => by rw [hj'] at ho'; cases ho'; exact hdep e he hb⟩
        rw [hnil] at this
        cases this
      subst hrn
      simp only [Zcw, Option.some.injEq, Prod.mk.injEq] at hrun
      obtain ⟨rfl, _⟩ := hrun
      exact hQ a w ρ hr
    · obtain ⟨hi1, hi2, hi3⟩ := (hready listed hsz i).1 hi
      have hio : ops[i]? = some ops[i] := Array.getElem?_eq_getElem hi1
      have hmem : i ∈ rest := (hrest i).2 ⟨hi1, hi2⟩
      obtain ⟨pre, post, rfl⟩ := List.append_of_mem hmem
      have hpw := List.pairwise_append.1 hsorted
      have hpre : ∀ p ∈ pre, p < i := fun p hp => hpw.2.2 p hp i (by simp)
      obtain ⟨recs', hrun', hmem'⟩ := Zmw pre st st' recs hrun (fun p hp Tp Ti h1 h2 => hcomp p i Tp Ti h1 h2 (hpre p hp) (by
        cases hbit : ((ancs ops.toList []).getD i 0).testBit p with
        | false => rfl
        | true =>
          have := Zjp (ops := ops) hback (L := fun j => listed[j]? = some true) (fun j o hj ho e he hb => hdown j o hj ho e he hb) i _ hio (fun e he hb => hi3 _ hio e he (ZgR hb md)) p hbit
          exact absurd this ((hrest p).1 (by simp [hp])).2))
      obtain ⟨so, e, s1, r1, hl, he, hrr, hx⟩ := Zcm hrun'
      cases hx
      have hnotin : i ∉ pre ++ post := by
        intro hin
        rcases List.mem_append.1 hin with h | h
        · exact absurd (hpre i h) (Nat.lt_irrefl i)
        · have := (List.pairwise_cons.1 hpw.2.1).1 i h
          exact absurd this (Nat.lt_irrefl i)
      refine Zkq hio (hrel i _ so hio hl) hcall hcan he hr fun a' w' ρ' hr' => ?_
      refine ih (listed.setIfInBounds i true) (pre ++ post) _ r1 ρ' a' w' hrr (by simp [hsz]) (fun k => ?_) ?_ (by simp at hfuel ⊢; omega) ?_ ?_ hr'
      · rw [ne_eq, Zfq hsz hi1]
        constructor
        · intro hk
          obtain ⟨k1, k2⟩ := (hrest k).1 (by rcases List.mem_append.1 hk with h | h <;> simp [h])
          refine ⟨k1, ?_⟩
          rintro (h | h)
          · subst h; exact hnotin hk
          · exact k2 h
        · rintro ⟨k1, k2⟩
          have := (hrest k).2 ⟨k1, fun h => k2 (.inr h)⟩
          rcases List.mem_append.1 this with h | h
          · simp [h]
          · rcases List.mem_cons.1 h with h | h
            · exact absurd (.inl h) k2
            · simp [h]
      · rw [List.pairwise_append]
        exact ⟨hpw.1, (List.pairwise_cons.1 hpw.2.1).2, fun x hx y hy => hpw.2.2 x hx y (by simp [hy])⟩
      · intro j o hj ho e' he' hb
        rw [Zfq hsz hi1] at hj ⊢
        rcases hj with rfl | hj
        · rw [hio] at ho; cases ho
          exact .inr (hi3 _ hio e' he' (ZgR hb md))
        · exact .inr (hdown j o hj ho e' he' hb)
      · intro p q Tp Tq h1 h2 hlt hb
        exact hcomp p q Tp Tq ((hmem' _).1 (by simp [h1])) ((hmem' _).1 (by simp [h2])) hlt hb
end
end Go.Sx
