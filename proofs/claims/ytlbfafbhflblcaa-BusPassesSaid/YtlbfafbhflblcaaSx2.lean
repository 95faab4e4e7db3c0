/-
  Appending an element with a heap of its own, and all operations together. Conditions: none.
-/
import Derived.Test.YtlbfafbhflblcaaSx1
import Derived.Test.YtlbfafbhflblcaaSxL
namespace Go.Sx
open Go
set_option linter.unusedVariables false
set_option linter.unusedSimpArgs false
section
variable {P : Program} {call : ZS} {a : Act} {w w0 : World} {S : List Nat} {σ : Nat → EV} {ρ : RM} {h : List Row} {n : Nat}
theorem Zkn {o : Oper} {s x : Operand} {t e' : TypeId} {i : TypeInfo} {zv : EV} {z : Nat} (ho : o.op = .call { callee := .builtin .append, args := #[s, x], argTypes := #[t, t] }) (ht : P.underlying t = some (.slice e')) (hi : P.info? e' = some i)
    (hz : ZcS P e' = some zv) (hzl : clen zv = i.size) (hpos : 0 < i.size) (hb0 : 0 < i.bytes) (hmax : i.size = max z 1) {s' x' : Opd} (hs : cOpd s = some s') (hx : cOpd x = some x') (hσ : ∀ t, VR ρ (σ t) (a.tmps.getD t undef)) (hT : HRT w0 S ρ h w)
    {e : Eff} (he : evOp call n (.appT z i.bytes s' x') σ h = some e) : ZgK P o a w0 S ρ h w e := by
  have h1 := ZN hσ hs
  have h2 := ZN hσ hx
  simp only [evOp] at he
  generalize s'.ev σ = SV at *
  generalize x'.ev σ = XV at *
  split at he
  · rename_i t0 zz
    split at he
    · rename_i hc1
      obtain ⟨hf, hzz⟩ := hc1
      split at he
      · rename_i trow htrow
        split at he
        · rename_i l hown hc
          obtain ⟨oo, cc⟩ := trow
          simp only at hown hc
          subst hown; subst hc
          split at he
          · rename_i hll
            split at he
            · rename_i m ids hnt
              split at he
              · rename_i hc2
                obtain ⟨hok, hnid⟩ := hc2
                have hnid' : n ∉ ids := by simpa using hnid
                obtain ⟨hh, μ, tg, hTr⟩ := hT
                obtain ⟨hnd, hids, hform⟩ := ZdJ hnt
                obtain ⟨K, hK, hRow⟩ := hh.live htrow rfl
                obtain ⟨pa, cap, hpa, hmc, hpaddr, hcaproom⟩ := Zja h2 hK
                have hread := hRow.read
                obtain ⟨cs0, c1, c2, c3, c4⟩ := ZaO (m := zz) (o := 0) hread (y := ZcP l) (by simp only [csub]; rw [if_pos (by omega), List.drop_zero, List.take_of_length_le (by omega)])
                have hsz : i.size = zz := by rw [hmax, hzz]
                have hnews : ∀ (j : Nat) (e : EV), l[j]? = some e → ∃ u, cs0[j]? = some u ∧ VR ρ e u := fun j e hj => c4 j e (by rw [Zch]; exact hj)
                have n2 : ∀ (j : Nat) (u : Value), cs0[j]? = some u → w.cell? (pa.add j) = some u := fun j u hj => by
                  rw [hpaddr (by omega), Zak]
                  exact c3 j u hj
                have hnrow : h[n]? = some ⟨false, .unk⟩ := by
                  unfold fresh at hf
                  split at hf
                  · assumption
                  · cases hf
                have hnt' : n ∉ t0 :: ids := fun hr => by
                  obtain ⟨row, q1, q2, _⟩ := Zaz (hids n hr).1
                  rw [hnrow] at q1; cases q1; cases q2
                have hlen : ∀ i ∈ t0 :: ids, i < h.length := fun i hi => by
                  obtain ⟨row, q1, _⟩ := Zaz (hids i hi).1
                  exact (List.getElem?_eq_some_iff.1 q1).1
                have hnlen : n < h.length := (List.getElem?_eq_some_iff.1 hnrow).1
                split at he
                · -- nil
                  split at he
                  · rename_i hbnd
                    simp only [Option.some.injEq] at he
                    subst he
                    simp only [VR] at h1
                    obtain ⟨v, w', B', room', cs', t', hrun, hv, hw', hroom, hold, hnew, hchg, hB, hlt⟩ := Zkm (P := P) (a := a) (w := w) (o := o) ho ht hi hz hzl hpos hb0 (m := 0) (B := w.heap.size) (room := 0) (cs := #[]) (et := t) (.inl ⟨h1, rfl⟩) (by omega) hpa (news := cs0) (by rw [c1, hsz, Nat.one_mul]) n2 c2
                    have hB' : w.heap.size ≤ B' := by
                      rcases hB with h | ⟨h, _⟩
                      · exact h
                      · omega
                    rw [hsz] at hv hnew hold
                    obtain ⟨ρ', q1, q2, q3⟩ := ZgP (o := o) (els := []) (r := n) (L := K) (h' := ((n, ⟨false, .tree z [m]⟩) :: (t0 :: ids).map fun r => (r, (⟨true, .unk⟩ : Row))).foldl setRow h) hh hTr hf hzz htrow hll hnt hok hnid' (.inl ⟨rfl, rfl⟩) (fun j => by
                      by_cases e1 : j = n
                      · refine .inl ⟨e1, ?_⟩
                        subst e1
                        exact ZaD _ _ _ _ (by
                          simp only [List.map_cons, List.map_map, Function.comp_def, List.map_id'] at hnt' ⊢
                          exact List.nodup_cons.2 ⟨hnt', hnd⟩) (by simp) hnlen
                      · by_cases e2 : j ∈ t0 :: ids
                        · refine .inr (.inl ⟨e1, .inl e2, ?_⟩)
                          exact ZaD _ _ _ _ (by
                            simp only [List.map_cons, List.map_map, Function.comp_def, List.map_id'] at hnt' ⊢
                            exact List.nodup_cons.2 ⟨hnt', hnd⟩) (List.mem_cons_of_mem _ (List.mem_map.2 ⟨j, e2, rfl⟩)) (hlen j e2)
                        · refine .inr (.inr ⟨e1, e2, e1, ?_⟩)
                          refine Zab _ _ _ fun p hp => ?_
                          rcases List.mem_cons.1 hp with rfl | hp
                          · exact Ne.symm e1
                          · obtain ⟨q, hq, rfl⟩ := List.mem_map.1 hp
                            rintro rfl
                            exact e2 hq) hv hw' hroom (fun j hj => by simp at hj) (news := cs0) (fun j hj => by
                              have := hnew j hj
                              simp only [World.cell?, hw', List.length_nil]
                              simpa using this) c2 hnews hchg (.inl hB') hlt
                    intro K2 Q hK2
                    simp only [Oper.wp, hrun, Oper.upon_value]
                    exact hK2 _ w' ρ' q1 (by simpa using q2) (by simpa using q3)
                  · cases he
                · -- a list
                  rename_i r0 nn zz'
                  split at he
                  · rename_i row2 hrow2
                    split at he
                    · rename_i z' els hc
                      split at he
                      · rename_i hc3
                        obtain ⟨rfl, rfl, rfl, hbnd⟩ := hc3
                        simp only [Option.some.injEq] at he
                        subst he
                        have hr2 : row2 = ⟨false, .tree z' els⟩ := by
                          have := hTr.ro r0 row2 hrow2 (by rw [hc]; rfl)
                          obtain ⟨q, c⟩ := row2
                          simp only at this hc
                          rw [this, hc]
                        rw [hr2] at hrow2
                        obtain ⟨L, hL, hLb, htg, ⟨lc, lt, hlw, hlr, hlz⟩, hlink, hfrs⟩ := hTr.list r0 z' els hrow2
                        obtain ⟨pa1, cap1, hpa1, hmc1, hpaddr1, hcap1⟩ := Zja h1 hL
                        rw [hLb] at hpaddr1
                        simp only [Nat.add_zero, Nat.zero_add] at hpaddr1 hcap1
                        have hr0n : r0 ≠ n := by rintro rfl; rw [hrow2] at hnrow; cases hnrow
                        have hr0t : r0 ∉ t0 :: ids := fun hr => by
                          obtain ⟨row, q1, q2, _⟩ := Zaz (hids r0 hr).1
                          rw [hrow2] at q1; cases q1; cases q2
                        have hr0len : r0 < h.length := (List.getElem?_eq_some_iff.1 hrow2).1
                        obtain ⟨v, w', B', room', cs', t', hrun, hv, hw', hroom, hold, hnew, hchg, hB, hlt⟩ := Zkm (P := P) (a := a) (w := w) (o := o) ho ht hi hz hzl hpos hb0 (m := els.length) (B := L.block) (room := L.room) (cs := lc) (et := lt)
                          (.inr ⟨pa1, cap1, hpa1, hmc1, hpaddr1, by rw [hsz]; exact hcap1, hlw, hlr, by rw [hmax]; exact hlz⟩) hbnd hpa (news := cs0) (by rw [c1, hsz, Nat.one_mul]) n2 c2
                        have hB' : w.heap.size ≤ B' ∨ tg B' = some (r0, 0) := by
                          rcases hB with h | ⟨rfl, _⟩
                          · exact .inl h
                          · exact .inr htg
                        rw [hsz] at hv hnew hold
                        have hndk : (((r0, (⟨true, .unk⟩ : Row)) :: (n, ⟨false, .tree z' (els ++ [m])⟩) :: (t0 :: ids).map fun r => (r, (⟨true, .unk⟩ : Row))).map (·.1)).Nodup := by
                          simp only [List.map_cons, List.map_map, Function.comp_def, List.map_id'] at hnt' ⊢
                          exact List.nodup_cons.2 ⟨by
                            simp only [List.mem_cons, not_or] at hr0t ⊢
                            exact ⟨hr0n, hr0t.1, hr0t.2⟩, List.nodup_cons.2 ⟨hnt', hnd⟩⟩
                        obtain ⟨ρ', q1, q2, q3⟩ := ZgP (o := o) (els := els) (r := r0) (L := L) (h' := ((r0, (⟨true, .unk⟩ : Row)) :: (n, ⟨false, .tree z' (els ++ [m])⟩) :: (t0 :: ids).map fun r => (r, (⟨true, .unk⟩ : Row))).foldl setRow h) hh hTr hf hzz htrow hll hnt hok hnid' (.inr ⟨hrow2, hL, hLb, hlink, hfrs⟩) (fun j => by
                          by_cases e1 : j = n
                          · refine .inl ⟨e1, ?_⟩
                            subst e1
                            exact ZaD _ _ _ _ hndk (by simp) hnlen
                          · by_cases e2 : j ∈ t0 :: ids
                            · refine .inr (.inl ⟨e1, .inl e2, ?_⟩)
                              exact ZaD _ _ _ _ hndk (List.mem_cons_of_mem _ (List.mem_cons_of_mem _ (List.mem_map.2 ⟨j, e2, rfl⟩))) (hlen j e2)
                            · by_cases e3 : j = r0
                              · refine .inr (.inl ⟨e1, .inr e3, ?_⟩)
                                subst e3
                                exact ZaD _ _ _ _ hndk (by simp) hr0len
                              · refine .inr (.inr ⟨e1, e2, e3, ?_⟩)
                                refine Zab _ _ _ fun p hp => ?_
                                rcases List.mem_cons.1 hp with rfl | hp
                                · exact Ne.symm e3
                                · rcases List.mem_cons.1 hp with rfl | hp
                                  · exact Ne.symm e1
                                  · obtain ⟨q, hq, rfl⟩ := List.mem_map.1 hp
                                    rintro rfl
                                    exact e2 hq) hv hw' hroom (fun j hj => by
                                      have := hold j hj
                                      simp only [World.cell?, hw', hlw]
                                      exact this) (news := cs0) (fun j hj => by
                                  have := hnew j hj
                                  simp only [World.cell?, hw']
                                  exact this) c2 hnews hchg hB' hlt
                        intro K2 Q hK2
                        simp only [Oper.wp, hrun, Oper.upon_value]
                        exact hK2 _ w' ρ' q1 q2 (by simpa using q3)
                      · cases he
                    · cases he
                  · cases he
                · cases he
              · cases he
            · cases he
          · cases he
        · cases he
      · cases he
    · cases he
  · cases he
theorem Zko {op : Op} {f : FuncId} {l : List Opd} (hc : cOp0 P op = some (.call f l)) :
    ∃ (args : Array Operand) (ats : Array TypeId) (fn : Func), op = .call { callee := .value (.func f), args := args, argTypes := ats } ∧ P.funcs[f]? = some fn ∧ (fn.name == "runtime.NumGoroutine") = false ∧ fn.body.isNone = false ∧ ZaZ args.toList = some l := by
  cases op <;> simp only [cOp0] at hc
  case call c =>
    obtain ⟨callee, args, ats⟩ := c
    unfold Zhp at hc
    simp only at hc
    split at hc
    · cases hc
    · rename_i xs' hxs
      split at hc
      · rename_i g
        split at hc
        · rename_i fn hfn
          split at hc
          · cases hc
          · rename_i hcond
            simp only [Bool.or_eq_true, not_or, Bool.not_eq_true] at hcond
            split at hc
            · simp at hc
            · split at hc
              · simp at hc
              · simp only [Option.some.injEq, SO.call.injEq] at hc
                obtain ⟨rfl, rfl⟩ := hc
                exact ⟨args, ats, fn, rfl, hfn, hcond.1, hcond.2, hxs⟩
        · cases hc
      · simp at hc
      · cases hc
      · exfalso
        repeat' split at hc
        all_goals (try simp at hc)
        all_goals (try (obtain ⟨_, _, hc⟩ := hc; (repeat' split at hc) <;> simp at hc))
  all_goals exfalso
  all_goals (try (repeat' split at hc))
  all_goals (try (simp at hc; done))
  all_goals (rename_i e; cases e)
theorem Zjo {op : Op} {g' : Opd} {l : List Opd} (hc : cOp0 P op = some (.callv g' l)) :
    ∃ (args : Array Operand) (ats : Array TypeId) (g : Operand), op = .call { callee := .value g, args := args, argTypes := ats } ∧ cOpd g = some g' ∧ ZaZ args.toList = some l := by
  cases op <;> simp only [cOp0] at hc
  case call c =>
    obtain ⟨callee, args, ats⟩ := c
    unfold Zhp at hc
    simp only at hc
    split at hc
    · cases hc
    · rename_i xs' hxs
      split at hc
      · rename_i g
        exfalso
        repeat' split at hc
        all_goals (try simp at hc)
      · rename_i g _
        simp only [Option.map_eq_some_iff, SO.callv.injEq] at hc
        obtain ⟨g2, hg, rfl, rfl⟩ := hc
        exact ⟨args, ats, g, rfl, hg, hxs⟩
      · cases hc
      · exfalso
        repeat' split at hc
        all_goals (try simp at hc)
        all_goals (try (obtain ⟨_, _, hc⟩ := hc; (repeat' split at hc) <;> simp at hc))
  all_goals exfalso
  all_goals (try (repeat' split at hc))
  all_goals (try (simp at hc; done))
  all_goals (rename_i e; cases e)
def SO.isT : SO → Bool
  | .loadT .. | .appT .. | .callT .. => true
  | _ => false
theorem Zkp {c : Call} {so : SO} (hc : Zhp P c = some so) : so.isT = false := by
  cases so <;> (try rfl) <;> exfalso <;> unfold Zhp at hc <;> (repeat' split at hc)
  all_goals (try (simp at hc; done))
  all_goals (simp only [Option.map_eq_some_iff] at hc; obtain ⟨_, _, hc⟩ := hc; (repeat' split at hc) <;> simp at hc)
theorem ZlO {op : Op} {so : SO} (hc : cOp0 P op = some so) : so.isT = false := by
  cases op <;> simp only [cOp0] at hc
  case call c => exact Zkp hc
  all_goals (cases so <;> (try rfl) <;> exfalso)
  all_goals (try (simp at hc; done))
  all_goals (repeat' split at hc)
  all_goals (try (simp at hc; done))
  all_goals (try (rename_i e; cases e; done))
  all_goals (simp only [Option.map_eq_some_iff] at hc; obtain ⟨_, _, hc⟩ := hc; (repeat' split at hc) <;> simp at hc)
theorem Znz {o : Oper} {so : SO} (hc : ZmH P o.op = some so) (hσ : ∀ t, VR ρ (σ t) (a.tmps.getD t undef)) (hT : HRT w0 S ρ h w) (hcall : ZaK P call) {e : Eff} (he : evOp call n so σ h = some e) : ZgK P o a w0 S ρ h w e := by
  cases ho : o.op <;> rw [ho] at hc <;> simp only [ZmH] at hc
  case load t x =>
    split at hc
    · rename_i z0 sh x' h1 h2 h3
      simp only [Option.some.injEq] at hc; subst hc
      exact Zjm ho h2 h3 hσ hT he
    · cases hc
  case call c =>
    obtain ⟨callee, args, ats⟩ := c
    simp only at hc
    split at hc
    · rename_i xs' f hxs
      split at hc
      · rename_i fn hfn
        split at hc
        · cases hc
        · rename_i hcond
          simp only [Bool.or_eq_true, not_or, Bool.not_eq_true] at hcond
          simp only [Option.map_eq_some_iff] at hc
          obtain ⟨p, hp, rfl⟩ := hc
          have hargs : (args.toList.map a.eval).toArray = args.map a.eval := by rw [← Array.toList_map, Array.toArray_toList]
          have hrun := Zc2 (a := a) ho hfn hcond.1 hcond.2 w
          rw [← hargs] at hrun
          have h1 := Za6 hσ hxs
          simp only [evOp] at he
          split at he
          · rename_i x as hx
            rw [hx] at h1
            split at he
            · rename_i r els i m htr
              simp only [Option.map_eq_some_iff] at he
              obtain ⟨y, hy, rfl⟩ := he
              generalize args.toList.map a.eval = vs at h1 hrun
              cases vs with
              | nil => simp [VRs] at h1
              | cons u us =>
                simp only [VRs] at h1
                obtain ⟨u', us', e1, h1, h2⟩ := h1
                cases e1
                exact Zf0 hrun h1 h2 hT hcall htr hy
            · cases he
          · cases he
      · cases hc
    · rename_i s' x' hxs
      obtain ⟨s, x, hx, hs', hx'⟩ := ZeC hxs
      have hargs : args = #[s, x] := by apply Array.ext'; simpa using hx
      subst hargs
      split at hc
      · rename_i t t' hat
        have hats : ats = #[t, t'] := by apply Array.ext'; simpa using hat
        subst hats
        split at hc
        · rename_i htt
          subst htt
          split at hc
          · rename_i e' hu
            split at hc
            · rename_i z i v ht hi hz
              split at hc
              · rename_i hcond
                simp only [Bool.and_eq_true, decide_eq_true_eq, beq_iff_eq] at hcond
                simp only [Option.some.injEq] at hc; subst hc
                exact Zkn ho hu hi hz hcond.1.2 hcond.1.1.1 hcond.1.1.2 hcond.2 hs' hx' hσ hT he
              · cases hc
            · cases hc
          · cases hc
        · cases hc
      · cases hc
    · cases hc
  all_goals cases hc
theorem ZnA {o : Oper} {so : SO} (hc : cOp P o.op = some so) (hσ : ∀ t, VR ρ (σ t) (a.tmps.getD t undef)) (hT : HRT w0 S ρ h w) (hcall : ZaK P call)
    (hcan : ∀ f args h r, call f args h = some r → Zl P f = true) {e : Eff} (he : evOp call n so σ h = some e) : ZgK P o a w0 S ρ h w e := by
  unfold cOp at hc
  split at hc
  · rename_i so' hct
    simp only [Option.some.injEq] at hc; subst hc
    exact Znz hct hσ hT hcall he
  · have hcan0 : ∀ f args h r, call0 call f args h = some r → Zl P f = true := fun f args h r hr => by
      unfold call0 at hr
      split at hr
      · split at hr
        · rename_i hc'
          exact hcan _ _ _ _ hc'
        · cases hr
      · cases hr
    have hnoT := ZlO hc
    cases hso : so.goes with
    | false =>
      have hg := ZgJ hso he
      have he0 : evOp (call0 call) n so σ h = some e := by
        rw [← he]
        cases so <;> simp [SO.goes] at hso <;> rfl
      exact Zc9 hT hσ (by rw [hg.1, List.append_nil]; exact hg.2) fun S' ρ' hR hσ' => ZmS hc hσ' hR (ZfY hcall) hcan0 he0
    | true =>
      cases so <;> simp [SO.goes] at hso <;> simp [SO.isT] at hnoT
      case callP f l =>
        have he0 := ZhA he
        have hgood : e.upd = [] ∧ e.news = [] := by
          simp only [evOp] at he
          split at he
          · split at he
            · simp only [Option.some.injEq] at he; subst he; exact ⟨rfl, rfl⟩
            · cases he
          · cases he
        exact Zc9 hT hσ (by rw [hgood.1, hgood.2, List.foldl_nil]; exact ZgN fun row hr => by cases hr) fun S' ρ' hR hσ' => ZmS hc hσ' hR (ZfY hcall) hcan0 he0
      case callB f bs l =>
        obtain ⟨he0, hu, hn⟩ := ZhB he
        exact Zc9 hT hσ (by rw [hu, List.foldl_nil]; exact ZgN hn) fun S' ρ' hR hσ' => ZmS hc hσ' hR (ZfY hcall) hcan0 he0
      case call f l =>
        obtain ⟨args, ats, fn, ho, hfn, hn, hb, hx⟩ := Zko hc
        have hargs : (args.toList.map a.eval).toArray = args.map a.eval := by rw [← Array.toList_map, Array.toArray_toList]
        exact Ziu (vs := args.toList.map a.eval) (by rw [hargs]; exact Zc2 ho hfn hn hb w) (Za6 hσ hx) hT hcall he
      case callv g' l =>
        obtain ⟨xs, ats, g, ho, hg, hx⟩ := Zjo hc
        have h1 := ZN hσ hg
        have h2 := Za6 hσ hx
        simp only [evOp] at he
        split at he
        · rename_i f x y hf
          rw [hf] at h1
          simp only [VR] at h1
          obtain ⟨u, v, hu, hxu, hyv⟩ := h1
          refine Ziu (vs := u ++ xs.toList.map a.eval ++ v) ?_ (Zbq (Zbq hxu h2) hyv) hT hcall he
          have hc : Zl P f = true := by
            unfold Za3 at he
            simp only at he
            split at he
            · split at he
              · simp at he
              · rename_i hcc
                exact hcan _ _ _ _ hcc
            · simp at he
          unfold Zl at hc
          split at hc
          · rename_i fn hfn
            simp only [Bool.and_eq_true, Bool.not_eq_true', decide_eq_true_eq] at hc
            obtain ⟨hc, hlt⟩ := hc
            rw [ZcY hlt] at hu
            obtain ⟨c, hcb⟩ : ∃ c, fn.body = some c := by cases hb : fn.body with | none => simp [hb] at hc | some c => exact ⟨c, rfl⟩
            have hn' : ¬ fn.name = "runtime.NumGoroutine" := by simpa using hc.1
            have ha : (xs.toList.map a.eval).toArray = xs.map a.eval := by rw [← Array.toList_map, Array.toArray_toList]
            simp only [execOp, ho, resolve, hu, Deferred.ofValue, Sem.run_bind, Sem.run_pure, Result.andThen_ok, invoke, callFunc, run_program, hfn]
            simp [hn', hcb, ← ha]
          · simp at hc
        · simp at he
end
end Go.Sx
