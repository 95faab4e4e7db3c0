/-
  Regions, code, functions: what the abstract machine answers is what the model answers. Conditions: none.
-/
import Derived.Test.YtlbfafbhflblcaaSxO
import Derived.LoopN
namespace Go.Sx
open Go
set_option linter.unusedVariables false
set_option linter.unusedSimpArgs false
theorem ZbL : ∀ {l : List Nat}, Zcy l = true → l.Nodup
  | [], _ => List.nodup_nil
  | x :: l, h => by
    simp only [Zcy, Bool.and_eq_true, Bool.not_eq_true'] at h
    exact List.nodup_cons.2 ⟨by simpa using h.1, ZbL h.2⟩
theorem ZlP {l : List (Nat × Nat)} {i : Nat} (h : i ∈ l.map (·.2)) : ∃ p, l.find? (fun p => p.2 == i) = some p ∧ p ∈ l ∧ p.2 = i := by
  cases hf : l.find? (fun p => p.2 == i) with
  | none =>
    obtain ⟨p, hp, rfl⟩ := List.mem_map.1 h
    have := List.find?_eq_none.1 hf p hp
    simp at this
  | some p => exact ⟨p, rfl, List.mem_of_find?_eq_some hf, by simpa using List.find?_some hf⟩
theorem Zkr {l : List (Nat × Nat)} (hn : (l.map (·.1)).Nodup) {p q : Nat × Nat} (hp : p ∈ l) (hq : q ∈ l) (h : p.1 = q.1) : p = q := by
  induction l with
  | nil => cases hp
  | cons x l ih =>
    simp only [List.map_cons, List.nodup_cons] at hn
    rcases List.mem_cons.1 hp with hp' | hp'
    · rcases List.mem_cons.1 hq with hq' | hq'
      · rw [hp', hq']
      · exact absurd (List.mem_map.2 ⟨q, hq', by rw [← h, hp']⟩) hn.1
    · rcases List.mem_cons.1 hq with hq' | hq'
      · exact absurd (List.mem_map.2 ⟨p, hp', by rw [h, hq']⟩) hn.1
      · exact ih hn.2 hp' hq'
theorem Zks {l : List (Nat × Nat)} (hn : (l.map (·.2)).Nodup) {p q : Nat × Nat} (hp : p ∈ l) (hq : q ∈ l) (h : p.2 = q.2) : p = q := by
  induction l with
  | nil => cases hp
  | cons x l ih =>
    simp only [List.map_cons, List.nodup_cons] at hn
    rcases List.mem_cons.1 hp with hp' | hp'
    · rcases List.mem_cons.1 hq with hq' | hq'
      · rw [hp', hq']
      · exact absurd (List.mem_map.2 ⟨q, hq', by rw [← h, hp']⟩) hn.1
    · rcases List.mem_cons.1 hq with hq' | hq'
      · exact absurd (List.mem_map.2 ⟨p, hp', by rw [h, hq']⟩) hn.1
      · exact ih hn.2 hp' hq'
theorem Zmx (f : EV → EV) (hf : f .unk = .unk) : ∀ (e : Env) (t : Nat), lk (e.map fun p => (p.1, f p.2)) t = f (lk e t)
  | [], t => hf.symm
  | (s, u) :: r, t => by
    simp only [List.map_cons, ZaT, ZbT]
    split
    · rfl
    · exact Zmx f hf r t
theorem ZhE {ds : List Deferred} {n m : Nat} {ρ0 : RM} {w0 : World} {S : List Nat} {ρ : RM} {st st' : St} {a : Act} {w : World} {base : Nat} (hr : SR ds n m ρ0 w0 S ρ st a w) (ht : tidy base st = some st') (hmb : m ≤ base) :
    ∃ ρ', SR ds n m ρ0 w0 S ρ' st' a w ∧ m ≤ base := by
  unfold tidy at ht
  simp only at ht
  generalize hcurr : ZjF base st.mvs = curr at ht
  split at ht
  · rename_i hc
    simp only [Bool.and_eq_true, decide_eq_true_eq] at hc
    obtain ⟨⟨⟨c1, c2⟩, c3⟩, c4⟩ := hc
    generalize hroots : ZI (st.env.map (·.2)) ++ ((st.heap.take base).flatMap fun row => ptrs row.c) ++ curr.map (·.1) = roots at ht
    generalize hlive : ((Zaa st.heap ZB roots []).filter fun i => decide (base ≤ i) && !(curr.map (·.1)).contains i && Znk (Zo st.heap i)) = live at ht
    have hlnd : live.Nodup := by rw [← hlive]; exact (Zay _ _ _ _ List.nodup_nil).filter _
    have hlm : ∀ i ∈ live, base ≤ i ∧ i ∉ curr.map (·.1) := by
      intro i hi
      rw [← hlive] at hi
      have := (List.mem_filter.1 hi).2
      simp only [Bool.and_eq_true, decide_eq_true_eq, Bool.not_eq_true'] at this
      exact ⟨this.1.1, by simpa using this.1.2⟩
    have n1 := ZbL c1
    have n2 := ZbL c2
    have h3 : ∀ i ∈ curr.map (·.1), base ≤ i := fun i hi => by simpa using List.all_eq_true.1 c3 i hi
    have h2lt : ∀ i ∈ curr.map (·.2), i < base := by
      intro i hi
      rw [← hcurr] at hi
      simp only [ZjF, List.map_map, List.mem_map, List.mem_filter] at hi
      obtain ⟨r, ⟨_, hr⟩, rfl⟩ := hi
      simpa using hr
    simp only [Option.some.injEq] at ht
    have hsrc_lo : ∀ j, j < base → (∃ p ∈ curr, p.2 = j ∧ Zeg base curr live j = p.1) ∨ (j ∉ curr.map (·.2) ∧ Zeg base curr live j = j) := by
      intro j hj
      by_cases hm : j ∈ curr.map (·.2)
      · obtain ⟨p, hf, hp, hpe⟩ := ZlP hm
        exact .inl ⟨p, hp, hpe, by unfold Zeg; rw [if_pos hj, hf]⟩
      · right
        refine ⟨hm, ?_⟩
        have : curr.find? (fun p => p.2 == j) = none := by
          rw [List.find?_eq_none]
          intro p hp
          simp only [beq_iff_eq]
          rintro rfl
          exact hm (List.mem_map.2 ⟨p, hp, rfl⟩)
        unfold Zeg
        rw [if_pos hj, this]
    have hsrc_hi : ∀ j, base ≤ j → j < base + live.length → Zeg base curr live j ∈ live ∧ live.idxOf (Zeg base curr live j) = j - base := by
      intro j hj hj2
      have hlt : j - base < live.length := by omega
      have hg : Zeg base curr live j = live[j - base] := by
        unfold Zeg
        rw [if_neg (by omega)]
        simp [List.getD_eq_getElem?_getD, List.getElem?_eq_getElem hlt]
      rw [hg]
      exact ⟨List.getElem_mem hlt, hlnd.idxOf_getElem _ hlt⟩
    obtain ⟨ρ2, hρ2, hR2, hσ2⟩ := hr.heap.reindex (h2 := st'.heap) (src := Zeg base curr live) (to := toOf base curr live)
      (fun j hj => by
        rw [← ht] at hj ⊢
        simp only [List.length_map, List.length_range] at hj
        simp [hj])
      (fun i j hij => by
        rw [← ht]
        simp only [List.length_map, List.length_range]
        unfold toOf at hij
        split at hij
        · rename_i hi
          split at hij
          · cases hij
          · rename_i hn
            simp only [Option.some.injEq] at hij
            subst hij
            refine ⟨by omega, ?_⟩
            rcases hsrc_lo i hi with ⟨p, hp, hpe, _⟩ | ⟨_, h⟩
            · exact absurd (by simpa using (List.mem_map.2 ⟨p, hp, hpe⟩ : i ∈ curr.map (·.2))) hn
            · exact h
        · rename_i hi
          split at hij
          · rename_i p hf
            simp only [Option.some.injEq] at hij
            subst hij
            have hp := List.mem_of_find?_eq_some hf
            have hp1 : p.1 = i := by simpa using List.find?_some hf
            have hlt := h2lt p.2 (List.mem_map.2 ⟨p, hp, rfl⟩)
            refine ⟨by omega, ?_⟩
            rcases hsrc_lo p.2 hlt with ⟨q, hq, hqe, hs⟩ | ⟨hn, _⟩
            · rw [hs, Zks n2 hq hp hqe, hp1]
            · exact absurd (List.mem_map.2 ⟨p, hp, rfl⟩) hn
          · split at hij
            · rename_i hl
              simp only [Option.some.injEq] at hij
              subst hij
              obtain ⟨p1, p2⟩ := Zaw (l := live) (i := i) (by simpa using hl)
              refine ⟨by omega, ?_⟩
              unfold Zeg
              rw [if_neg (by omega)]
              have : base + live.idxOf i - base = live.idxOf i := by omega
              rw [this, List.getD_eq_getElem?_getD, List.getElem?_eq_getElem p1]
              simp
            · cases hij)
      (fun j k hj hk hjk => by
        rw [← ht] at hj hk
        simp only [List.length_map, List.length_range] at hj hk
        by_cases hjb : j < base <;> by_cases hkb : k < base
        · rcases hsrc_lo j hjb with ⟨p, hp, hpe, hs⟩ | ⟨hn, hs⟩ <;> rcases hsrc_lo k hkb with ⟨q, hq, hqe, hs'⟩ | ⟨hn', hs'⟩
          · rw [hs, hs'] at hjk
            rw [← hpe, ← hqe, Zkr n1 hp hq hjk]
          · rw [hs, hs'] at hjk
            have := h3 p.1 (List.mem_map.2 ⟨p, hp, rfl⟩)
            omega
          · rw [hs, hs'] at hjk
            have := h3 q.1 (List.mem_map.2 ⟨q, hq, rfl⟩)
            omega
          · rw [hs, hs'] at hjk; exact hjk
        · obtain ⟨q1, q2⟩ := hsrc_hi k (by omega) hk
          rw [← hjk] at q1
          have := hlm _ q1
          rcases hsrc_lo j hjb with ⟨p, hp, hpe, hs⟩ | ⟨hn, hs⟩
          · rw [hs] at this
            exact absurd (List.mem_map.2 ⟨p, hp, rfl⟩) this.2
          · rw [hs] at this; omega
        · obtain ⟨q1, q2⟩ := hsrc_hi j (by omega) hj
          rw [hjk] at q1
          have := hlm _ q1
          rcases hsrc_lo k hkb with ⟨p, hp, hpe, hs⟩ | ⟨hn, hs⟩
          · rw [hs] at this
            exact absurd (List.mem_map.2 ⟨p, hp, rfl⟩) this.2
          · rw [hs] at this; omega
        · obtain ⟨_, q2⟩ := hsrc_hi j (by omega) hj
          obtain ⟨_, q2'⟩ := hsrc_hi k (by omega) hk
          rw [hjk, q2'] at q2
          omega)
    have hl2 : st'.heap.length = base + live.length := by rw [← ht]; simp
    refine ⟨ρ2, ⟨fun i hi hg => ?_, hr.pos, by omega, fun t => ?_, hR2, hr.size, hr.defers, by rw [← ht]; exact hr.ms, ⟨fun b o hb => hσ2.2.1 b o (hr.ice.1 b o hb), hσ2.2.2.2.trans hr.ice.2⟩⟩, hmb⟩
    · have hib : i < base := by omega
      rw [hρ2 i, if_pos (by omega)]
      rw [← ht] at hg
      simp only [List.mem_append, List.mem_filter, not_or, not_and] at hg
      rcases hsrc_lo i hib with ⟨p, hp, hpe, _⟩ | ⟨_, hs⟩
      · have hm : i ∈ curr.map (·.2) := List.mem_map.2 ⟨p, hp, hpe⟩
        have := hg.2 hm
        rw [hr.ms] at this
        simp [hi] at this
        exact absurd this hg.1
      · rw [hs]; exact hr.keep i hi hg.1
    · have he : lk st'.env t = ren (toOf base curr live) (lk st.env t) := by
        rw [← ht]
        exact Zmx (ren (toOf base curr live)) (by simp [ren]) _ _
      rw [he]
      exact Zgu ⟨hσ2.1, hσ2.2.1⟩ _ _ (hr.env t)
  · cases ht
section
variable {P : Program} {call : ZS} {ds : List Deferred} {n m : Nat} {ρ0 : RM} {w0 : World} {S : List Nat}
theorem Zfr : ∀ {base : Nat} {l : List SOp} {st st' : St}, Zef call base l st = some st' → ∃ ts, ZcA call base l st = some (st', ts)
  | base, [], st, st', h => by simp [Zef] at h; subst h; exact ⟨[], rfl⟩
  | base, o :: l, st, st', h => by
    simp only [Zef, Option.bind_eq_some_iff, ZjE, Option.map_eq_some_iff] at h
    obtain ⟨s1, ⟨e, he, rfl⟩, h⟩ := h
    obtain ⟨ts, hts⟩ := Zfr h
    exact ⟨_, by simp only [ZcA, he, Option.bind_some, hts, Option.map_some]; rfl⟩
theorem ZgU {base : Nat} {l : List SOp} : ∀ (k : Nat) (r : List SOp) (st st' : St) (ts : List (List Nat)), l.drop k = r → ZcA call base r st = some (st', ts) →
    ts.length = r.length ∧ Zcw call base l (List.range' k r.length) st = some (st', (List.range' k r.length).zip ts)
  | k, [], st, st', ts, _, h => by simp [ZcA] at h; obtain ⟨rfl, rfl⟩ := h; exact ⟨rfl, rfl⟩
  | k, o :: r, st, st', ts, hd, h => by
    simp only [ZcA, Option.bind_eq_some_iff, Option.map_eq_some_iff] at h
    obtain ⟨e, he, x, hx, h⟩ := h
    cases h
    have hk : l[k]? = some o := by
      have : (l.drop k)[0]? = some o := by rw [hd]; rfl
      simpa using this
    have hd' : l.drop (k + 1) = r := by
      have : (l.drop k).drop 1 = r := by rw [hd]; rfl
      simpa [List.drop_drop] using this
    obtain ⟨h1, h2⟩ := ZgU (k + 1) r _ _ _ hd' hx
    exact ⟨by simp [h1], by simp only [List.length_cons, List.range'_succ, List.zip_cons_cons]; exact Zf1 hk he h2⟩
theorem ZcD {anc : List Nat} {l : List SOp} : ∀ (k : Nat) (r : List SOp) (ps : List (Nat × Nat)), l.drop k = r → ZcT anc l k r = some ps →
    ∀ i j x y, k ≤ j → i < j → l[i]? = some x → l[j]? = some y → (anc.getD j 0).testBit i = false → Zfa x y = true ∧ (x.op.calls && y.op.calls) = false ∧ (Zdo x.op y.op = true → (i, j) ∈ ps)
  | k, [], ps, hd, h, i, j, x, y, hk, hij, hi, hj, hb => by
    have hlen : l.length ≤ k := by simpa using hd
    have := (List.getElem?_eq_some_iff.1 hj).1
    omega
  | k, o :: r, ps, hd, h, i, j, x, y, hk, hij, hi, hj, hb => by
    have hko : l[k]? = some o := by
      have : (l.drop k)[0]? = some o := by rw [hd]; rfl
      simpa using this
    have hd' : l.drop (k + 1) = r := by
      have : (l.drop k).drop 1 = r := by rw [hd]; rfl
      simpa [List.drop_drop] using this
    simp only [ZcT] at h
    split at h
    · cases h
    · rename_i ps' hps'
      split at h
      · rename_i hall
        simp only [Option.some.injEq] at h
        subst h
        rcases Nat.eq_or_lt_of_le hk with rfl | hlt
        · rw [hko] at hj; cases hj
          have hmem : i ∈ (List.range k).filter fun i => !(anc.getD k 0).testBit i := List.mem_filter.2 ⟨List.mem_range.2 hij, by simp only [hb]; rfl⟩
          have := List.all_eq_true.1 hall i hmem
          rw [hi] at this
          simp only [Bool.and_eq_true, Bool.not_eq_true'] at this
          refine ⟨this.1, this.2, fun hm => ?_⟩
          simp only [List.mem_append]
          left
          exact List.mem_map.2 ⟨i, List.mem_filter.2 ⟨hmem, by rw [hi]; exact hm⟩, rfl⟩
        · obtain ⟨h1, h2, h3⟩ := ZcD (k + 1) r ps' hd' hps' i j x y hlt hij hi hj hb
          exact ⟨h1, h2, fun hm => List.mem_append.2 (.inr (h3 hm))⟩
      · cases h
theorem ZiC (own : List Nat) : ∀ (e : Env) (t : Nat), lk (e ++ own.map fun t => (t, .unk)) t = lk e t
  | [], t => by
    simp only [List.nil_append, ZaT, ZbT]
    induction own with
    | nil => rfl
    | cons x own ih =>
      simp only [List.map_cons, ZaT, ZbT]
      split
      · rfl
      · exact ih
  | (s, u) :: r, t => by
    simp only [List.cons_append, ZaT, ZbT]
    split
    · rfl
    · exact ZiC own r t
theorem Zkt : ∀ (k : Nat) (e : Env) (t : Nat), lk (e.take k) t = lk e t ∨ lk (e.take k) t = .unk
  | 0, e, t => .inr rfl
  | k + 1, [], t => .inl rfl
  | k + 1, (s, u) :: r, t => by
    simp only [List.take_succ_cons, ZaT, ZbT]
    split
    · exact .inl rfl
    · exact Zkt k r t
theorem Zjq {vars : List Nat} {ops : Array Oper} {draw : Bool} {r : Reg} {st st' : St} {ρ : RM} {a : Act} {w : World} {Q : Exit → Act → World → Prop} (hc : cReg P n vars ops draw = some r) (hcall : ZaK P call)
    (hcan : ∀ f args h r, call f args h = some r → Zl P f = true) (hrun : Ze9 call r st = some st') (hr : SR ds n m ρ0 w0 S ρ st a w) (hQ : ∀ a' w' ρ', SR ds n m ρ0 w0 S ρ' st' a' w' → Q .normal a' w') :
    (draw = false → wpOps P ops Q (List.range ops.size) a w) ∧ (draw = true → ∀ t, wpOps P ops Q (Region.schedule (P.follows .mixedOrders) ops t) a { w with drawn := w.drawn + 1 }) := by
  unfold cReg at hc
  split at hc
  · cases hc
  · rename_i l hl
    obtain ⟨hlen, hrel⟩ := ZgQ hl
    have hlen' : l.length = ops.size := by simpa using hlen
    have hrel' : ∀ (i : Nat) (o : Oper) (so : SOp), ops[i]? = some o → l[i]? = some so → Rel P n ops o so := fun i o so h1 h2 => hrel i o so (by simpa using h1) h2
    split at hc
    · cases hc
    · rename_i pairs hpairs
      simp only [Option.some.injEq] at hc
      subst hc
      unfold Ze9 at hrun
      simp only at hrun
      generalize hst0 : ({ st with env := st.env ++ ((dsts l).filter fun d => !vars.contains d).map fun t => (t, EV.unk), heap := st.heap ++ List.replicate (l.filter (·.op.makes)).length ⟨false, .unk⟩ } : St) = st0 at hrun
      have hr0 : ∀ {w : World}, SR ds n m ρ0 w0 S ρ st a w → SR ds n m ρ0 w0 S ρ st0 a w := by
        intro w hr
        rw [← hst0]
        exact ⟨hr.keep, hr.pos, by simp only [List.length_append]; have := hr.long; omega, fun t => by simp only [ZiC]; exact hr.env t, hr.heap.slots _, hr.size, hr.defers, hr.ms, hr.ice⟩
      have hend : ∀ (st1 : St), (if l.any (·.op.tidies) then tidy st.heap.length { st1 with env := st1.env.take st.env.length } else some { st1 with env := st1.env.take st.env.length }) = some st' → ∀ a' w' ρ', SR ds n m ρ0 w0 S ρ' st1 a' w' → Q .normal a' w' := by
        intro st1 hfin a' w' ρ' hr1
        have hr2 : SR ds n m ρ0 w0 S ρ' { st1 with env := st1.env.take st.env.length } a' w' := by
          refine ⟨hr1.keep, hr1.pos, hr1.long, fun t => ?_, hr1.heap, hr1.size, hr1.defers, hr1.ms, hr1.ice⟩
          rcases Zkt st.env.length st1.env t with h | h
          · simp only [h]; exact hr1.env t
          · simp only [h]; simp [VR]
        split at hfin
        · obtain ⟨ρ'', h1, _⟩ := ZhE hr2 hfin hr.long
          exact hQ a' w' ρ'' h1
        · simp only [Option.some.injEq] at hfin
          rw [← hfin] at hQ
          exact hQ a' w' ρ' hr2
      have hrec : ∃ st1 ts, ZcA call st.heap.length l st0 = some (st1, ts) ∧ (if l.any (·.op.tidies) then tidy st.heap.length { st1 with env := st1.env.take st.env.length } else some { st1 with env := st1.env.take st.env.length }) = some st' ∧ (∀ i j, (i, j) ∈ pairs → ZjG (ts.getD i []) (ts.getD j []) = true) := by
        cases hp : pairs with
        | nil =>
          rw [hp] at hrun
          simp only [Option.bind_eq_some_iff] at hrun
          obtain ⟨st1, h1, h2⟩ := hrun
          obtain ⟨ts, hts⟩ := Zfr h1
          exact ⟨st1, ts, hts, h2, fun i j h => by cases h⟩
        | cons p ps =>
          rw [hp] at hrun
          simp only [Option.bind_eq_some_iff] at hrun
          obtain ⟨x, h1, h2⟩ := hrun
          split at h2
          · rename_i hok
            refine ⟨x.1, x.2, h1, h2, fun i j hij => ?_⟩
            exact List.all_eq_true.1 hok (i, j) hij
          · cases h2
      obtain ⟨st1, ts, hts, hfin, hdisj⟩ := hrec
      obtain ⟨htl, hix⟩ := ZgU (l := l) 0 l st0 st1 ts rfl hts
      rw [← List.range_eq_range'] at hix
      cases draw with
      | false =>
        refine ⟨fun _ => ?_, fun h => by cases h⟩
        rw [← hlen']
        exact ZiB hlen' hrel' hcall hcan _ st0 st1 _ ρ a w hix (hr0 hr) (hend st1 hfin)
      | true =>
        simp only [if_true] at hpairs
        split at hpairs
        · rename_i hfl
          unfold Zno at hfl
          simp only [Bool.and_eq_true] at hfl
          obtain ⟨hback, htopo⟩ := hfl
          rw [Zhq] at htopo
          refine ⟨fun h => (by cases h), fun _ t => ?_⟩
          have hr' : SR ds n m ρ0 w0 S ρ st0 a { w with drawn := w.drawn + 1 } := hr0 ⟨hr.keep, hr.pos, hr.long, hr.env, hr.heap.drew _, hr.size, hr.defers, hr.ms, hr.ice⟩
          have hany : ∀ md, Ze1 md ops.toList ops.size 0 = true → wpAny P md ops Q ops.size (Array.replicate ops.size false) a { w with drawn := w.drawn + 1 } := by
            intro md htp
            refine ZnB hlen' hrel' hcall hcan hback htp st1 (hend st1 hfin) ops.size _ (List.range l.length) st0 _ ρ a _ hix (by simp) (fun i => ?_) List.pairwise_lt_range (by simp [hlen']) (fun j o hj => ?_) ?_ hr'
            · simp only [List.mem_range, hlen']
              constructor
              · intro h; exact ⟨h, by simp [h]⟩
              · exact fun h => h.1
            · simp [Array.getElem?_replicate] at hj
            · intro i j Ti Tj hi hj hlt hb x y hx hy
              obtain ⟨g1, g2, g3⟩ := ZcD (l := l) 0 l pairs rfl hpairs i j x y (Nat.zero_le _) hlt hx hy hb
              have hget : ∀ (i : Nat) (T : List Nat), (i, T) ∈ (List.range l.length).zip ts → ts.getD i [] = T := by
                intro i T hm
                obtain ⟨k, hk⟩ := List.mem_iff_getElem?.1 hm
                rw [List.getElem?_zip_eq_some] at hk
                obtain ⟨k1, k2⟩ := hk
                have : k = i := by
                  have hkl := (List.getElem?_eq_some_iff.1 k1).1
                  simp only [List.length_range] at hkl
                  simpa [hkl] using k1
                subst this
                simp [List.getD_eq_getElem?_getD, k2]
              refine ⟨g1, g2, fun hm => ?_⟩
              have := hdisj i j (g3 hm)
              rw [hget i Ti hi, hget j Tj hj] at this
              exact this
          by_cases hmix : P.follows .mixedOrders = true
          · rw [if_pos hmix] at htopo
            simp only [Region.schedule, hmix, Bool.true_or, if_true]
            exact wpAny_sound ops.size _ _ a _ (hany .any htopo)
          · rw [if_neg hmix] at htopo
            simp only [Region.schedule, hmix, Bool.false_or]
            by_cases hdep : Region.departs ops = true
            · rw [if_pos hdep] at htopo
              simp only [Bool.and_eq_true] at htopo
              simp only [hdep, Bool.not_true, Bool.false_eq_true, if_false]
              by_cases h2 : (t % 2 == 0) = true
              · simp only [h2, if_true]
                exact wpAny_sound ops.size _ _ a _ (hany .text htopo.1)
              · simp only [h2, Bool.false_eq_true, if_false]
                exact wpAny_sound ops.size _ _ a _ (hany .gc htopo.2)
            · rw [if_neg hdep] at htopo
              simp only [hdep, Bool.not_false, if_true]
              exact wpAny_sound ops.size _ _ a _ (hany .any htopo)
        · cases hpairs
theorem Zku {vars : List Nat} {ops : Array Oper} {draw : Bool} {r : Reg} {id : Nat} {st st' : St} {ρ : RM} {a : Act} {w : World} {Q : Exit → Act → World → Prop} (hc : cReg P n vars ops draw = some r) (hcall : ZaK P call)
    (hcan : ∀ f args h r, call f args h = some r → Zl P f = true) (hrun : Ze9 call r st = some st') (hr : SR ds n m ρ0 w0 S ρ st a w) (hQ : ∀ a' w' ρ', SR ds n m ρ0 w0 S ρ' st' a' w' → Q .normal a' w') :
    (Code.region id ops draw).wp P Q a w := by
  have h := Zjq hc hcall hcan hrun hr hQ
  cases draw with
  | false => exact wp_region (h.1 rfl)
  | true => exact wp_region_draw (h.2 rfl)
def ZeK : SX → Exit
  | .normal => .normal
  | .exit id => .exit id
  | .ret => .ret
theorem Zkv {c : Code} {f : St → Option (SX × St)} {Q : Exit → Act → World → Prop} (hf : ∀ (st st' : St) (x : SX) (ρ : RM) (a : Act) (w : World) (Q : Exit → Act → World → Prop), f st = some (x, st') → SR ds n m ρ0 w0 S ρ st a w → (∀ a' w' ρ', SR ds n m ρ0 w0 S ρ' st' a' w' → Q (ZeK x) a' w') → c.wp P Q a w) :
    ∀ (k : Nat) (st st' : St) (x : SX) (ρ : RM) (a : Act) (w : World), iter f k st = some (x, st') → SR ds n m ρ0 w0 S ρ st a w → (∀ a' w' ρ', SR ds n m ρ0 w0 S ρ' st' a' w' → Q (ZeK x) a' w') →
      x ≠ .normal ∧ ∀ (b : Frame) (q : List Item) (cs : List Frame), ∃ e a' w', Q e a' w' ∧ Arrives P (lone (b.at a (.code c :: .inLoop c :: q)) cs w) b q cs e a' w'
  | 0, st, st', x, ρ, a, w, h, hr, hQ => by simp [iter] at h
  | k + 1, st, st', x, ρ, a, w, h, hr, hQ => by
    simp only [iter] at h
    split at h
    · rename_i s1 hs1
      have hrest : ∀ ρ' a' w', SR ds n m ρ0 w0 S ρ' s1 a' w' → x ≠ .normal ∧ ∀ (b : Frame) (q : List Item) (cs : List Frame), ∃ e a'' w'', Q e a'' w'' ∧ Arrives P (lone (b.at a' (.code c :: .inLoop c :: q)) cs w') b q cs e a'' w'' :=
        fun ρ' a' w' hr' => Zkv hf k s1 st' x ρ' a' w' h hr' hQ
      have hx : x ≠ .normal := by
        have hh := hf s1
        have key : ∀ (k : Nat) (st : St), iter f k st = some (x, st') → x ≠ .normal := by
          intro k
          induction k with
          | zero => intro st h; simp [iter] at h
          | succ k ih =>
            intro st h
            simp only [iter] at h
            split at h
            · exact ih _ h
            · rename_i hn
              rintro rfl
              exact hn _ h
        exact key k s1 h
      refine ⟨hx, fun b q cs => ?_⟩
      have hround := hf st s1 .normal ρ a w (fun e a' w' => e = .normal ∧ ∃ ρ', SR ds n m ρ0 w0 S ρ' s1 a' w') hs1 hr (fun a' w' ρ' hr' => ⟨rfl, ρ', hr'⟩)
      obtain ⟨e, a1, w1, ⟨he, ρ1, hr1⟩, harr⟩ := hround b (.inLoop c :: q) cs
      subst he
      obtain ⟨_, hgo⟩ := hrest ρ1 a1 w1 hr1
      obtain ⟨e2, a2, w2, hq2, harr2⟩ := hgo b q cs
      exact ⟨e2, a2, w2, hq2, .of_steps (Steps.trans harr (.one step_inLoop)) harr2⟩
    · rename_i hn
      have hx : x ≠ .normal := by rintro rfl; exact hn _ h
      refine ⟨hx, fun b q cs => ?_⟩
      obtain ⟨e, a1, w1, ⟨he, hq⟩, harr⟩ := hf st st' x ρ a w (fun e a' w' => e = ZeK x ∧ Q e a' w') h hr (fun a' w' ρ' hr' => ⟨rfl, hQ a' w' ρ' hr'⟩) b (.inLoop c :: q) cs
      subst he
      exact ⟨_, a1, w1, hq, .pass (x := .inLoop c) rfl (fun _ _ => .inl (by cases x <;> simp [ZeK] at hx ⊢)) harr⟩
theorem Zkw (D : List Nat) : ∀ (e : Env) (t : Nat), lk (Zhn D e) t = lk e t ∨ lk (Zhn D e) t = .unk
  | [], t => .inl rfl
  | (s, v) :: r, t => by
    simp only [Zhn, ZaT]
    by_cases h : t = s
    · rw [if_pos h, if_pos h]
      cases D.contains s
      · exact .inl rfl
      · exact .inr rfl
    · rw [if_neg h, if_neg h]
      exact Zkw D r t
theorem SR.kill {ds : List Deferred} {n m : Nat} {ρ0 : RM} {w0 : World} {S : List Nat} {ρ : RM} {st : St} {a : Act} {w : World} (h : SR ds n m ρ0 w0 S ρ st a w) (D : List Nat) : SR ds n m ρ0 w0 S ρ { st with env := Zhn D st.env } a w :=
  ⟨h.keep, h.pos, h.long, fun t => by
    rcases Zkw D st.env t with e | e
    · simp only [e]; exact h.env t
    · simp only [e, VR], h.heap, h.size, h.defers, h.ms, h.ice⟩
theorem Zkx {ds : List Deferred} {n m : Nat} {ρ0 : RM} {w0 : World} {S : List Nat} {ρ : RM} {st st' : St} {x : SX} {a : Act} {w : World} {call : ZS} {s : SC} {D : List Nat} (he : evC call (endS s D) st = some (x, st')) (h : SR ds n m ρ0 w0 S ρ st a w) : x = .normal ∧ ∃ ρ', SR ds n m ρ0 w0 S ρ' st' a w := by
  unfold endS at he
  split at he
  · simp only [evC, Option.map_eq_some_iff, Prod.mk.injEq] at he
    obtain ⟨st1, ht, rfl, rfl⟩ := he
    have hk := h.kill D
    obtain ⟨ρ', hr, _⟩ := ZhE hk ht (by rw [hk.ms]; exact Nat.le_refl _)
    exact ⟨rfl, ρ', hr⟩
  · simp only [evC, Option.some.injEq, Prod.mk.injEq] at he
    obtain ⟨rfl, rfl⟩ := he
    exact ⟨rfl, ρ, h.kill D⟩
theorem Zba (hcall : ZaK P call) (hcan : ∀ f args h r, call f args h = some r → Zl P f = true) {vars R : List Nat} :
    ∀ (c : Code) (Γ : List (Nat × List Nat)) (L : List Nat) (sc : SC) (st st' : St) (x : SX) (ρ : RM) (a : Act) (w : World) (Q : Exit → Act → World → Prop), cC P n vars R c Γ L = some sc → evC call sc st = some (x, st') → SR ds n m ρ0 w0 S ρ st a w →
      (∀ a' w' ρ', SR ds n m ρ0 w0 S ρ' st' a' w' → Q (ZeK x) a' w') → c.wp P Q a w
  | .skip, Γ, L, sc, st, st', x, ρ, a, w, Q, hc, he, hr, hQ => by
    simp only [cC, Option.some.injEq] at hc; subst hc
    simp only [evC, Option.some.injEq, Prod.mk.injEq] at he
    obtain ⟨rfl, rfl⟩ := he
    exact wp_skip (hQ a w ρ hr)
  | .region id ops draw, Γ, L, sc, st, st', x, ρ, a, w, Q, hc, he, hr, hQ => by
    simp only [cC, Option.map_eq_some_iff] at hc
    obtain ⟨r, hc, rfl⟩ := hc
    simp only [evC, Option.map_eq_some_iff, Prod.mk.injEq] at he
    obtain ⟨s1, hs1, rfl, rfl⟩ := he
    exact Zku hc hcall hcan hs1 hr hQ
  | .seq p q, Γ, L, sc, st, st', x, ρ, a, w, Q, hc, he, hr, hQ => by
    simp only [cC] at hc
    split at hc
    · rename_i sp sq hp hq
      simp only [Option.some.injEq] at hc; subst hc
      simp only [evC] at he
      refine wp_seq ?_
      split at he
      · rename_i s1 hs1
        refine Zba hcall hcan p _ _ sp st s1 .normal ρ a w _ hp hs1 hr fun a' w' ρ' hr' => ?_
        exact Zba hcall hcan q _ _ sq s1 st' x ρ' a' w' Q hq he hr' hQ
      · rename_i hn
        refine Zba hcall hcan p _ _ sp st st' x ρ a w _ hp he hr fun a' w' ρ' hr' => ?_
        have := hQ a' w' ρ' hr'
        cases x with
        | normal => exact absurd he (hn _)
        | exit id => exact this
        | ret => exact this
    · cases hc
  | .cond t p q, Γ, L, sc, st, st', x, ρ, a, w, Q, hc, he, hr, hQ => by
    simp only [cC] at hc
    split at hc
    · rename_i t' sp sq ht hp hq
      simp only [Option.some.injEq] at hc; subst hc
      have hv := ZN (a := a) hr.env ht
      simp only [evC] at he
      split at he
      · rename_i hb
        rw [hb] at hv
        exact wp_cond_true (Za8 hv) (Zba hcall hcan p _ _ sp st st' x ρ a w Q hp he hr hQ)
      · rename_i hb
        rw [hb] at hv
        exact wp_cond_false (Za8 hv) (Zba hcall hcan q _ _ sq st st' x ρ a w Q hq he hr hQ)
      · cases he
    · cases hc
  | .block id p, Γ, L, sc, st, st', x, ρ, a, w, Q, hc, he, hr, hQ => by
    simp only [cC, Option.map_eq_some_iff] at hc
    obtain ⟨sp, hp, rfl⟩ := hc
    simp only [evC] at he
    refine wp_block ?_
    split at he
    · rename_i i s1 hs1
      refine Zba hcall hcan p _ _ sp st s1 (.exit i) ρ a w _ hp hs1 hr fun a' w' ρ' hr' => ?_
      simp only [ZeK, Exit.inBlock]
      split at he
      · rename_i hi
        simp only [Option.some.injEq, Prod.mk.injEq] at he
        obtain ⟨rfl, rfl⟩ := he
        rw [if_pos hi]
        exact hQ a' w' ρ' hr'
      · rename_i hi
        simp only [Option.some.injEq, Prod.mk.injEq] at he
        obtain ⟨rfl, rfl⟩ := he
        rw [if_neg hi]
        exact hQ a' w' ρ' hr'
    · rename_i hn
      refine Zba hcall hcan p _ _ sp st st' x ρ a w _ hp he hr fun a' w' ρ' hr' => ?_
      have := hQ a' w' ρ' hr'
      cases x with
      | normal => exact this
      | exit id => exact absurd he (hn _ _)
      | ret => exact this
  | .loop p, Γ, L, sc, st, st', x, ρ, a, w, Q, hc, he, hr, hQ => by
    simp only [cC, Option.map_eq_some_iff] at hc
    obtain ⟨sp, hp, rfl⟩ := hc
    simp only [evC] at he
    obtain ⟨_, hgo⟩ := Zkv (c := p) (f := evC call (.seq sp (endS sp (Zei vars (ZcU R Γ p []))))) (Q := Q) (fun st st' x ρ a w Q hst hr hQ => by
      rw [show evC call (.seq sp (endS sp (Zei vars (ZcU R Γ p [])))) st = (match evC call sp st with
        | some (.normal, st') => evC call (endS sp (Zei vars (ZcU R Γ p []))) st'
        | r => r) from rfl] at hst
      split at hst
      · rename_i s1 hs1
        have hx : ∀ {a' w' ρ'}, SR ds n m ρ0 w0 S ρ' s1 a' w' → Q (ZeK x) a' w' := fun hr' => by
          obtain ⟨_, ρ'', hr''⟩ := Zkx hst hr'
          exact hQ _ _ ρ'' hr''
        by_cases hxn : x = .normal
        · subst hxn
          exact Zba hcall hcan p _ _ sp st s1 .normal ρ a w Q hp hs1 hr fun a' w' ρ' hr' => hx hr'
        · refine Zba hcall hcan p _ _ sp st s1 .normal ρ a w Q hp hs1 hr fun a' w' ρ' hr' => absurd (Zkx hst hr').1 hxn
      · exact Zba hcall hcan p _ _ sp st st' x ρ a w Q hp hst hr hQ) Zbg _ st' x ρ a w he (hr.kill _) hQ
    intro b q cs
    obtain ⟨e, a', w', hq, harr⟩ := hgo b q cs
    exact ⟨e, a', w', hq, .of_steps (.one step_loop) harr⟩
  | .exit id, Γ, L, sc, st, st', x, ρ, a, w, Q, hc, he, hr, hQ => by
    simp only [cC, Option.some.injEq] at hc; subst hc
    simp only [evC, Option.some.injEq, Prod.mk.injEq] at he
    obtain ⟨rfl, rfl⟩ := he
    exact wp_exit (hQ a w ρ (hr.kill _))
  | .ret, Γ, L, sc, st, st', x, ρ, a, w, Q, hc, he, hr, hQ => by
    simp only [cC, Option.some.injEq] at hc; subst hc
    simp only [evC, Option.some.injEq, Prod.mk.injEq] at he
    obtain ⟨rfl, rfl⟩ := he
    exact wp_ret (hQ a w ρ (hr.kill _))
  | .rangeFunc _ _ _ _, Γ, L, sc, st, st', x, ρ, a, w, Q, hc, he, hr, hQ => by simp [cC] at hc
  | .scope _, Γ, L, sc, st, st', x, ρ, a, w, Q, hc, he, hr, hQ => by simp [cC] at hc
  | .label _, Γ, L, sc, st, st', x, ρ, a, w, Q, hc, he, hr, hQ => by simp [cC] at hc
  | .goto _, Γ, L, sc, st, st', x, ρ, a, w, Q, hc, he, hr, hQ => by simp [cC] at hc
  | .refuse _, Γ, L, sc, st, st', x, ρ, a, w, Q, hc, he, hr, hQ => by simp [cC] at hc
end
section
variable {P : Program}
theorem Zky {ds : List Deferred} {n m : Nat} {ρ0 : RM} {w0 w : World} {S : List Nat} {ρ : RM} {st : St} {a : Act} (hr : SR ds n m ρ0 w0 S ρ st a w) : ∀ (rs : List ResultVar) (ss : List SRes) (l : List EV), cRes P rs = some ss → ZbW st ss = some l →
    ∃ vs : List Value, (rs.mapM fun r => (match r with | .tmp t => pure (a.tmps.getD t undef) | .cell c t => do loadVar t (← asAddr (a.tmps.getD c undef)) : Sem Value)).run P w = .ok vs w ∧ VRs ρ l vs
  | [], ss, l, hc, hl => by
    simp only [cRes, Option.some.injEq] at hc; subst hc
    simp only [ZbW, Option.some.injEq] at hl; subst hl
    exact ⟨[], by simp, by simp [VRs]⟩
  | .tmp t :: rs, ss, l, hc, hl => by
    simp only [cRes, Option.map_eq_some_iff] at hc
    obtain ⟨ss', hss', rfl⟩ := hc
    simp only [ZbW, ZjI, Option.bind_some, Option.map_eq_some_iff] at hl
    obtain ⟨l', hl', rfl⟩ := hl
    obtain ⟨vs, h1, h2⟩ := Zky hr rs ss' l' hss' hl'
    refine ⟨a.tmps.getD t undef :: vs, ?_, by simp only [VRs]; exact ⟨_, _, rfl, hr.env t, h2⟩⟩
    simp only [List.mapM_cons, Sem.run_bind, Sem.run_pure, Result.andThen_ok, h1]
  | .cell c t :: rs, ss, l, hc, hl => by
    simp only [cRes] at hc
    split at hc
    · rename_i sh ss' hsh hss'
      simp only [Option.some.injEq] at hc; subst hc
      simp only [ZbW, Option.bind_eq_some_iff, Option.map_eq_some_iff] at hl
      obtain ⟨x, hx, l', hl', rfl⟩ := hl
      obtain ⟨vs, h1, h2⟩ := Zky hr rs ss' l' hss' hl'
      have hv := hr.env c
      simp only [ZjI] at hx
      split at hx
      · rename_i r o hro
        rw [hro] at hv
        split at hx
        · rename_i row hrow
          cases sh with
          | none =>
            simp only at hx
            obtain ⟨L, hL, hR⟩ := hr.heap.1.live hrow (Zim hx)
            have hp := Zey hv hL
            obtain ⟨u, hu0, _, hvr⟩ := hR.read.2 o x hx
            have hu : w.cell? ⟨L.block, L.base + o, none⟩ = some u := hu0
            refine ⟨u :: vs, ?_, by simp only [VRs]; exact ⟨_, _, rfl, hvr, h2⟩⟩
            have hhead : (do loadVar t (← asAddr (a.tmps.getD c undef)) : Sem Value).run P w = .ok u w := by
              simp [hp, asAddr, loadVar, ZaG (Zbu hsh), run_load, hu]
            rw [List.mapM_cons, Sem.run_bind]
            simp only [hhead, Result.andThen_ok, Sem.run_bind, h1, Sem.run_pure]
          | some k =>
            simp only at hx
            obtain ⟨ha, hsz⟩ := Zbt hsh
            obtain ⟨hra, hva, hvl, _, _⟩ := Zan hx
            obtain ⟨L, hL, hR⟩ := hr.heap.1.live hrow hra
            have hp := Zey hv hL
            obtain ⟨cs, hcl, g2, g3, g4⟩ := ZaO hR.read hx
            have hlc := run_loadCells_list (P := P) w ⟨L.block, L.base + o, none⟩ cs (fun j u hj => by rw [Zak]; exact g3 j u hj)
            rw [hcl] at hlc
            refine ⟨.agg cs.toArray :: vs, ?_, by simp only [VRs]; exact ⟨_, _, rfl, Zbs hva (by rw [hcl, hvl]) g2 g4, h2⟩⟩
            have hhead : (do loadVar t (← asAddr (a.tmps.getD c undef)) : Sem Value).run P w = .ok (.agg cs.toArray) w := by
              simp [hp, asAddr, loadVar, ZaN ha, Zav hsz, hlc]
            rw [List.mapM_cons, Sem.run_bind]
            simp only [hhead, Result.andThen_ok, Sem.run_bind, h1, Sem.run_pure]
        · cases hx
      · cases hx
    · cases hc
theorem ZmT {ρ : RM} {l : List EV} {vs : List Value} (h : VRs ρ l vs) : VR ρ (ZbX l) (if h : vs.toArray.size = 1 then vs.toArray[0] else .tuple vs.toArray) := by
  have hlen := Zbp h
  by_cases h1 : vs.toArray.size = 1
  · rw [dif_pos h1]
    match l, vs, hlen, h1 with
    | [e], [v], _, _ =>
      simp only [VRs] at h
      obtain ⟨v', r, hv, hvr, _⟩ := h
      cases hv
      exact hvr
    | [], [v], hl, _ => simp at hl
    | _ :: _ :: _, [v], hl, _ => simp at hl
    | _, [], _, h1 => simp at h1
    | _, _ :: _ :: _, _, h1 => simp at h1
  · rw [dif_neg h1]
    have : ZbX l = .tup l := by
      match l, hlen with
      | [], _ => rfl
      | [e], hl => simp at h1; exact absurd hl h1
      | _ :: _ :: _, _ => rfl
    rw [this]
    simp only [VR]
    exact ⟨vs, rfl, h⟩
theorem Zkz {fn : SFn} {args : List EV} : ∀ (vars : List Nat) (t : Nat), lk (vars.map fun t => (t, if t < fn.np then args.getD t .unk else .unk)) t = (if t < fn.np then args.getD t .unk else .unk) ∨ lk (vars.map fun t => (t, if t < fn.np then args.getD t .unk else .unk)) t = .unk
  | [], t => .inr rfl
  | v :: vars, t => by
    simp only [List.map_cons, ZaT, ZbT]
    by_cases h : t = v
    · subst h; rw [if_pos rfl]; exact .inl rfl
    · rw [if_neg h]; exact Zkz vars t
def Zn7 (P : Program) (f : FuncId) (g : ZS → List EV → Option EV) : Prop := ∀ call, ZaK P call → (∀ f args h r, call f args h = some r → Zl P f = true) → ∀ (args : List EV) (r : EV), g call args = some r →
  ∀ (F : Nat → Option Obj) (w : World) (vs : List Value), VRs (RM.none F) args vs → Calls P f vs.toArray w fun e w' => ∃ v, e = .returned v ∧ VR (RM.none F) r v ∧ Fr w [] w'
def ZgV (P : Program) (tab : FuncId → Option SFn) : Prop := ∀ f fn, tab f = some fn → Zl P f = true ∧
  ((fn.ext = none ∧ cFn P f = some fn ∧ ∀ F, P.funcs[f]? = some F → F.params.size ≤ F.ntmps) ∨ ∃ g, fn.ext = some g ∧ Zn7 P f g)
theorem ZdM {tab : FuncId → Option SFn} (ht : ZgV P tab) : ∀ (k : Nat) (f : FuncId) (args : List EV) (h : List Row) (r : EV × List Row × List Nat), evF tab k f args h = some r → Zl P f = true
  | 0, f, args, h, r, he => by simp [evF] at he
  | k + 1, f, args, h, r, he => by
    simp only [evF] at he
    split at he
    · cases he
    · rename_i fn hfn
      exact (ht f fn hfn).1
theorem ZkA {tab : FuncId → Option SFn} (ht : ZgV P tab) : ∀ (k : Nat), ZaK P (evF tab k)
  | 0 => fun f args h r h' mv he => by simp [evF] at he
  | k + 1 => fun f args h r h' mv he => by
    simp only [evF] at he
    split at he
    · cases he
    · rename_i fn hfn
      obtain ⟨hcan, hx⟩ := ht f fn hfn
      rcases hx with ⟨hx, hcf, hnt⟩ | ⟨g, hx, hg⟩
      rotate_left
      · rw [hx] at he
        simp only [Option.bind_eq_some_iff] at he
        obtain ⟨r', hr', he⟩ := he
        split at he
        · rename_i e1 e2
          simp only [Option.some.injEq, Prod.mk.injEq] at he
          obtain ⟨rfl, rfl, rfl⟩ := he
          intro w S ρ vs hh hpos hargs
          refine (hg _ (ZkA ht k) (ZdM ht k) args r' hr' ρ.F w vs (ZbG (ρ := ρ) (ρ' := RM.none ρ.F) (fun _ _ h => h) _ _ e1 hargs)).mono fun e w' hp => ?_
          obtain ⟨v, rfl, hv, hf⟩ := hp
          exact ⟨v, ρ, rfl, ZfR (ρ := RM.none ρ.F) (ρ' := ρ) (fun _ _ h => h) _ _ e2 hv, hh.fr hf, Nat.le_refl _, fun i _ _ => .inl rfl, List.nodup_nil, (fun i hi => by cases hi), (fun i row hi hrow => by
            rcases hi with hi | hi
            · rw [List.getElem?_eq_none hi] at hrow; cases hrow
            · cases hi), (fun _ _ h => h), rfl⟩
        · cases he
      rw [hx] at he
      simp only at he
      unfold cFn at hcf
      simp only [Option.bind_eq_some_iff] at hcf
      obtain ⟨F, hF, hcf⟩ := hcf
      have hnt' := hnt F hF
      unfold Znq at hcf
      rcases hbody : F.body with _ | c
      · rw [hbody] at hcf; cases hcf
      · rw [hbody] at hcf
        simp only at hcf
        split at hcf
        · rename_i body res hcb hcr
          simp only [Option.some.injEq] at hcf
          split at he
          · rename_i hnp
            have hfin : ∃ (x : SX) (st : St), (x = .normal ∨ x = .ret) ∧ evC (evF tab k) fn.body { env := bind fn args, heap := h, m := h.length } = some (x, st) ∧ ((ZbW st fn.res).bind fun l => ZfG h.length st (ZbX l)) = some (r, h', mv) := by
              split at he
              · exact ⟨.normal, _, .inl rfl, by assumption, he⟩
              · exact ⟨.ret, _, .inr rfl, by assumption, he⟩
              · cases he
            obtain ⟨x, st, hx, hev, hlv⟩ := hfin
            simp only [Option.bind_eq_some_iff] at hlv
            obtain ⟨l, hl, hlv⟩ := hlv
            intro w S ρ vs hh hpos hargs
            refine calls_of_wp hF hbody ?_
            have hvl := Zbp hargs
            have hsz : vs.length ≤ F.ntmps := by
              rw [hvl, hnp, ← hcf]; exact hnt'
            have hSR : SR [] F.ntmps h.length ρ w S ρ { env := bind fn args, heap := h, m := h.length } { tmps := vs.toArray ++ Array.replicate (F.ntmps - vs.toArray.size) undef, defers := [] } w := by
              refine ⟨fun i hi _ => .inl rfl, hpos, Nat.le_refl _, fun t => ?_, hh, by simp; omega, rfl, rfl, ⟨fun _ _ h => h, rfl⟩⟩
              rcases Zkz (fn := fn) (args := args) fn.vars t with hlk | hlk
              · simp only [bind]
                rw [hlk]
                split
                · by_cases hta : t < args.length
                  · obtain ⟨v, hv, hvr⟩ := Zek hargs t args[t] (List.getElem?_eq_getElem hta)
                    have h1 : args.getD t .unk = args[t] := by simp [List.getD_eq_getElem?_getD, List.getElem?_eq_getElem hta]
                    rw [h1]
                    have h2 : (vs.toArray ++ Array.replicate (F.ntmps - vs.toArray.size) undef).getD t undef = v := by
                      have htv : t < vs.length := by omega
                      rw [Array.getD_eq_getD_getElem?, Array.getElem?_append_left (by simpa using htv)]
                      simp [hv]
                    rw [h2]
                    exact hvr
                  · have h1 : args.getD t .unk = .unk := by simp [List.getD_eq_getElem?_getD, List.getElem?_eq_none (Nat.le_of_not_lt hta)]
                    rw [h1]; simp [VR]
                · simp [VR]
              · simp only [bind]
                rw [hlk]; simp [VR]
            rw [← hcf] at hev hl
            refine Zba (ZkA ht k) (ZdM ht k) c _ _ body _ st x ρ _ w _ hcb hev (by rw [← hcf] at hSR; exact hSR) fun a' w' ρ' hr' => ?_
            obtain ⟨vs', hrun, hvs'⟩ := Zky hr' _ _ l hcr hl
            have hres : (results F a'.tmps).run P w' = .ok (if h : vs'.toArray.size = 1 then vs'.toArray[0] else .tuple vs'.toArray) w' := by
              simp only [results, Sem.run_bind]
              rw [Array.mapM_eq_mapM_toList]
              simp only [Sem.run_map, Sem.run_pure]
              exact congrArg (fun r : Result (List Value) => ((r.andThen fun a w' => Result.ok a.toArray w').andThen fun a w' => Result.ok (if h : a.size = 1 then a[0] else Value.tuple a) w')) hrun
            have hpack := ZmT hvs'
            have hpost : ∃ ρ'', VR ρ'' r (if h : vs'.toArray.size = 1 then vs'.toArray[0] else .tuple vs'.toArray) ∧ HRT w S ρ'' h' w' ∧ h.length ≤ h'.length ∧ (∀ i, i < h.length → i ∉ mv → ρ'' i = ρ i ∨ ρ'' i = some none) ∧ mv.Nodup ∧ (∀ i ∈ mv, i < h.length) ∧ (∀ (i : Nat) (row : Row), (h.length ≤ i ∨ i ∈ mv) → h'[i]? = some row → row.own = true ∨ Zw row.c = true) ∧ leF ρ.F ρ''.F ∧ ρ''.F0 = ρ.F0 := by
              unfold ZfG at hlv
              simp only [Option.bind_eq_some_iff] at hlv
              obtain ⟨st2, ht2, hlv⟩ := hlv
              split at hlv
              · rename_i hchk
                simp only [Bool.and_eq_true] at hchk
                obtain ⟨⟨k1, k2⟩, k3⟩ := hchk
                simp only [Option.some.injEq, Prod.mk.injEq] at hlv
                obtain ⟨rfl, rfl, rfl⟩ := hlv
                generalize (if h : vs'.toArray.size = 1 then vs'.toArray[0] else .tuple vs'.toArray) = V at hpack
                have hSR2 : SR [] 1 h.length ρ w S ρ' { env := [(0, ZbX l)], heap := st.heap, mvs := [], gone := st.gone.filter (· < h.length), m := h.length } { tmps := #[V], defers := [] } w' := by
                  refine ⟨fun i hi hg => hr'.keep i hi (fun hm => hg ?_), hr'.pos, hr'.long, fun t => ?_, hr'.heap, rfl, rfl, rfl, hr'.ice⟩
                  · simp only [List.mem_filter, decide_eq_true_eq]; exact ⟨hm, hi⟩
                  · simp only [ZaT, ZbT]
                    split
                    · rename_i ht0; subst ht0; simpa using hpack
                    · simp [VR]
                obtain ⟨ρ'', hS, _⟩ := ZhE hSR2 ht2 (Nat.le_refl _)
                have hown : ∀ i ∈ st2.gone, i < h.length ∧ ∀ row, st2.heap[i]? = some row → row.own = true ∨ Zw row.c = true := by
                  intro i hi
                  have := List.all_eq_true.1 k2 i hi
                  simp only [Bool.and_eq_true, decide_eq_true_eq] at this
                  refine ⟨this.1, fun row hrow => ?_⟩
                  have h2 := this.2
                  rw [hrow] at h2
                  simpa using h2
                refine ⟨ρ'', by simpa using hS.env 0, hS.heap, hS.long, hS.keep, ZbL k1, fun i hi => (hown i hi).1, fun i row hi hrow => ?_, hS.ice⟩
                rcases hi with hi | hi
                · have hmem : row ∈ st2.heap.drop h.length := by
                    refine List.mem_iff_getElem?.2 ⟨i - h.length, ?_⟩
                    rw [List.getElem?_drop]
                    have : h.length + (i - h.length) = i := by omega
                    rw [this]; exact hrow
                  simpa using List.all_eq_true.1 k3 row hmem
                · exact (hown i hi).2 row hrow
              · cases hlv
            obtain ⟨ρ'', p1, p2⟩ := hpost
            rcases hx with rfl | rfl
            · exact ⟨hr'.defers, _, hres, _, ρ'', rfl, p1, p2⟩
            · exact ⟨hr'.defers, _, hres, _, ρ'', rfl, p1, p2⟩
          · cases he
        · cases hcf
theorem Zn8 {tab : FuncId → Option SFn} (ht : ZgV P tab) {k : Nat} {f : FuncId} {args : List EV} {h h' : List Row} {r : EV} {mv : List Nat} (he : evF tab k f args h = some (r, h', mv)) : Znx P f args h r h' mv := ZkA ht k _ _ _ _ _ _ he
def tabL (l : List (FuncId × SFn)) (f : FuncId) : Option SFn :=
  match l with
  | [] => none
  | (g, fn) :: r => if f = g then some fn else tabL r f
theorem ZkB (P : Program) : ZgV P (tabL []) := fun f fn h => by simp [tabL] at h
theorem Zm {l : List (FuncId × SFn)} {g : FuncId} {gn : SFn} (h1 : cFn P g = some gn) (h2 : Zl P g = true) (h3 : ∀ F, P.funcs[g]? = some F → F.params.size ≤ F.ntmps) (h : ZgV P (tabL l)) (hx : gn.ext = none := by rfl) : ZgV P (tabL ((g, gn) :: l)) := by
  intro f fn hf
  simp only [tabL] at hf
  split at hf
  · rename_i e
    subst e
    simp only [Option.some.injEq] at hf
    subst hf
    exact ⟨h2, .inl ⟨hx, h1, h3⟩⟩
  · exact h f fn hf
end
end Go.Sx
