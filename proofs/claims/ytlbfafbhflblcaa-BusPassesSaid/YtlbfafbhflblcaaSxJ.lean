/-
  Loads, stores, append, copy, and bytes to a string: what the abstract machine does to its rows is what the model does to its blocks. Conditions: none.
-/
import Derived.Test.YtlbfafbhflblcaaSxI
namespace Go.Sx
open Go
set_option linter.unusedVariables false
section
variable {P : Program} {call : ZS} {a : Act} {w w0 : World} {S : List Nat} {σ : Nat → EV} {ρ : RM} {h : List Row} {n : Nat}
theorem ZaN {t : TypeId} (h : aggT P t = some true) (w : World) : (Go.isAgg t).run P w = .ok true w := by
  unfold aggT at h
  cases hu : P.underlying t with
  | none => simp [hu] at h
  | some T =>
    rw [hu] at h
    unfold Go.isAgg
    rw [Sem.run_bind, run_underlying hu w]
    cases T <;> simp at h ⊢
theorem ZaG {t : TypeId} (h : aggT P t = some false) (w : World) : (Go.isAgg t).run P w = .ok false w := by
  unfold aggT at h
  cases hu : P.underlying t with
  | none => simp [hu] at h
  | some T =>
    rw [hu] at h
    unfold Go.isAgg
    rw [Sem.run_bind, run_underlying hu w]
    cases T <;> simp at h ⊢
theorem Zim {c : EV} {i : Nat} {e : EV} (h : cget c i = some e) : Sx.isAgg c = true := by cases c <;> simp [cget] at h <;> rfl
theorem Zey {r o : Nat} {L : Loc} {v : Value} (h : VR ρ (.ptr r o) v) (hL : ρ r = some (some L)) : v = .pointer (some ⟨L.block, L.base + o, none⟩) := by
  simp only [VR] at h
  obtain ⟨p, rfl, l, hl, hp⟩ := h
  rw [hL] at hl
  cases hl
  rw [hp L rfl]
theorem ZaO {c y : EV} {o m : Nat} {L : Loc} (hc : CR ρ c (fun j => w.cell? ⟨L.block, L.base + j, none⟩)) (hy : csub c o m = some y) :
    ∃ cs : List Value, cs.length = m ∧ (∀ u ∈ cs, u.oneCell' = true) ∧ (∀ (j : Nat) (u : Value), cs[j]? = some u → w.cell? ⟨L.block, L.base + o + j, none⟩ = some u) ∧ ∀ (j : Nat) (e : EV), cget y j = some e → ∃ u, cs[j]? = some u ∧ VR ρ e u := by
  obtain ⟨ha, hya, hl, hle, hg⟩ := Zan hy
  have hex : ∀ j, j < m → ∃ u, w.cell? ⟨L.block, L.base + o + j, none⟩ = some u ∧ u.oneCell' = true ∧ ∀ e, cget y j = some e → VR ρ e u := by
    intro j hj
    obtain ⟨e, he⟩ := ZjS ha (show o + j < clen c by omega)
    obtain ⟨u, h1, h2, h3⟩ := hc.2 _ e he
    refine ⟨u, by rw [Nat.add_assoc]; exact h1, h2, fun e' he' => ?_⟩
    rw [hg j hj, he] at he'
    cases he'
    exact h3
  let f : Nat → Value := fun j => (w.cell? ⟨L.block, L.base + o + j, none⟩).getD undef
  have hf : ∀ j, j < m → w.cell? ⟨L.block, L.base + o + j, none⟩ = some (f j) := by
    intro j hj
    obtain ⟨u, hu, _⟩ := hex j hj
    simp [f, hu]
  refine ⟨(List.range m).map f, by simp, fun u hu => ?_, fun j u hj => ?_, fun j e he => ?_⟩
  · obtain ⟨j, hj, rfl⟩ := List.mem_map.1 hu
    have hjm := List.mem_range.1 hj
    obtain ⟨u, h1, h2, _⟩ := hex j hjm
    rw [hf j hjm] at h1
    cases h1
    exact h2
  · have hjm : j < m := by
      have := (List.getElem?_eq_some_iff.1 hj).1
      simpa using this
    simp [hjm] at hj
    rw [hf j hjm, hj]
  · have hjm : j < m := by rw [← hl]; exact ZfJ he
    obtain ⟨u, h1, _, h3⟩ := hex j hjm
    refine ⟨u, ?_, h3 e he⟩
    rw [hf j hjm] at h1
    cases h1
    simp [hjm]
theorem ZgE {o : Oper} {t : TypeId} {x : Operand} (ho : o.op = .load t x) {sh : Option Nat} (hs : ZbY P t = some sh) {x' : Opd} (hx : cOpd x = some x') (hσ : ∀ t, VR ρ (σ t) (a.tmps.getD t undef)) (hh : HR w0 S ρ h w)
    {e : Eff} (he : evOp call n (.load sh x') σ h = some e) : Does P o a w0 S ρ h w e := by
  have h1 := ZN hσ hx
  simp only [evOp] at he
  split at he
  · rename_i r off hr
    rw [hr] at h1
    split at he
    · rename_i row hrow
      cases sh with
      | none =>
        simp only [Option.map_eq_some_iff] at he
        obtain ⟨v, hv, rfl⟩ := he
        obtain ⟨L, hL, hR⟩ := hh.live hrow (Zim hv)
        have hp := Zey h1 hL
        obtain ⟨u, hu, _, hvr⟩ := hR.read.2 off v hv
        refine ZD (ρ' := ρ) (w' := w) (v := u) ?_ (le_refl _) hvr (by simpa using hh)
        simp [execOp, ho, hp, Instr.loadAt, Instr.sureAddr, loadVar, ZaG (Zbu hs), run_load, hu]
      | some m =>
        simp only [Option.map_eq_some_iff] at he
        obtain ⟨v, hv, rfl⟩ := he
        obtain ⟨ha, hsz⟩ := Zbt hs
        obtain ⟨hra, hva, hvl, _, _⟩ := Zan hv
        obtain ⟨L, hL, hR⟩ := hh.live hrow hra
        have hp := Zey h1 hL
        obtain ⟨cs, hcl, h2, h3, h4⟩ := ZaO hR.read hv
        have hlc := run_loadCells_list (P := P) w ⟨L.block, L.base + off, none⟩ cs (fun j u hj => by rw [Zak]; exact h3 j u hj)
        rw [hcl] at hlc
        refine ZD (ρ' := ρ) (w' := w) (v := .agg cs.toArray) ?_ (le_refl _) (Zbs hva (by rw [hcl, hvl]) h2 h4) (by simpa using hh)
        simp [execOp, ho, hp, Instr.loadAt, Instr.sureAddr, loadVar, ZaN ha, Zav hsz, hlc]
    · simp at he
  · rename_i c off hr
    rw [hr] at h1
    simp only [VR] at h1
    obtain ⟨b, base, hp, hcont⟩ := h1
    have hR := hh.cont hcont
    cases sh with
    | none =>
      simp only [Option.map_eq_some_iff] at he
      obtain ⟨v, hv, rfl⟩ := he
      obtain ⟨u, hu, _, hvr⟩ := hR.2 off v hv
      refine ZD (ρ' := ρ) (w' := w) (v := u) ?_ (le_refl _) hvr (by simpa using hh)
      simp [execOp, ho, hp, Instr.loadAt, Instr.sureAddr, loadVar, ZaG (Zbu hs), run_load, hu]
    | some m =>
      simp only [Option.map_eq_some_iff] at he
      obtain ⟨v, hv, rfl⟩ := he
      obtain ⟨ha, hsz⟩ := Zbt hs
      obtain ⟨hra, hva, hvl, _, _⟩ := Zan hv
      obtain ⟨cs, hcl, h2, h3, h4⟩ := ZaO (L := ⟨b, base, 0, fun _ => 0⟩) hR hv
      have hlc := run_loadCells_list (P := P) w ⟨b, base + off, none⟩ cs (fun j u hj => by rw [Zak]; exact h3 j u hj)
      rw [hcl] at hlc
      refine ZD (ρ' := ρ) (w' := w) (v := .agg cs.toArray) ?_ (le_refl _) (Zbs hva (by rw [hcl, hvl]) h2 h4) (by simpa using hh)
      simp [execOp, ho, hp, Instr.loadAt, Instr.sureAddr, loadVar, ZaN ha, Zav hsz, hlc]
  · simp at he
theorem Zi9 {o : Oper} {t : TypeId} {p x : Operand} (ho : o.op = .store t p x) {m : Nat} (hs : ZP P t = some m) {p' x' : Opd} (hp : cOpd p = some p') (hx : cOpd x = some x') (hσ : ∀ t, VR ρ (σ t) (a.tmps.getD t undef)) (hh : HR w0 S ρ h w)
    {e : Eff} (he : evOp call n (.store m p' x') σ h = some e) : Does P o a w0 S ρ h w e := by
  have h1 := ZN hσ hp
  have h2 := ZN hσ hx
  simp only [evOp] at he
  split at he
  · rename_i r off hr
    rw [hr] at h1
    split at he
    · rename_i row hrow
      split at he
      · rename_i hc
        simp only [Bool.and_eq_true, beq_iff_eq] at hc
        simp only [Option.map_eq_some_iff] at he
        obtain ⟨c', hput, rfl⟩ := he
        obtain ⟨hra, _, _, hle, hk, _⟩ := ZaP hput
        obtain ⟨L, hL, hR⟩ := hh.live hrow hra
        have hpe := Zey h1 hL
        obtain ⟨hroom, hR'⟩ := hR
        rw [if_pos hc.1] at hR'
        obtain ⟨hb, cs, et, hg, hrs, hcr⟩ := hR'
        obtain ⟨v1, v2, v3⟩ := ZbC h2 hk
        have hW := hh.write hrow hc.1 hL hg hb hrs hcr hput (vs := (a.eval x).cells.toList) v1 hroom v2 v3
        refine Zj6 (ρ' := ρ) (w' := w.setRow L.block (cs.toList.take off ++ (a.eval x).cells.toList ++ cs.toList.drop (off + (a.eval x).cells.toList.length)).toArray) ?_ (le_refl _) rfl (by simp only [List.foldl_cons, List.foldl_nil, setRow, List.append_nil]; exact hW)
        have hst := run_storeCells_at (P := P) L.block off et (a.eval x).cells.toList 0 cs w hg (by rw [v1]; omega) v2
        simp only [Nat.add_zero] at hst
        have hsz : (a.eval x).cells.size = m := by rw [← hc.2]; simpa using v1
        simp only [execOp, ho, hpe, hb, Nat.zero_add, Instr.storeAt, Instr.sureAddr, storeVar, Sem.run_bind, Sem.run_pure, Result.andThen_ok, Zav hs, hsz, ne_eq, not_true_eq_false, if_false]
        rw [hst]
        rfl
      · simp at he
    · simp at he
  · simp at he
theorem HR.move {w' : World} {r i : Nat} {row : Row} {L : Loc} {c : EV} (hh : HR w0 S ρ h w) (hr : h[r]? = some row) (hown : row.own = true) (hL : ρ r = some (some L)) (hf : fresh h i = true) (hc : Chg w w' L.block)
    (hrow : ∀ ρ', le ρ ρ' → RowR ρ' ⟨true, c⟩ L w') : ρ i = none ∧ le ρ (updM (updM ρ r none) i (some L)) ∧ HR w0 S (updM (updM ρ r none) i (some L)) ((h.set r ⟨true, .unk⟩).set i ⟨true, c⟩) w' := by
  have hi : h[i]? = some ⟨false, .unk⟩ := by
    unfold fresh at hf
    split at hf
    · assumption
    · simp at hf
  have hn : ρ i = none := by
    rcases hh.rows i _ hi with ⟨_, h2⟩ | ⟨L, _, h2⟩
    · simpa using h2
    · have := h2.read.1
      simp [Sx.isAgg, Zw] at this
  have hne : i ≠ r := by rintro rfl; rw [hn] at hL; cases hL
  have hK := hh.kill hr
  have hn' : updM ρ r none i = none := by rw [ZA hne]; exact hn
  have hle : le ρ (updM (updM ρ r none) i (some L)) := le_trans (ZbD (.inr (.inr rfl))) (ZbD (.inl hn'))
  refine ⟨hn, hle, hK.put (by rw [List.getElem?_set_ne (Ne.symm hne)]; exact hi) hc (.inl hn') rfl (hrow _ hle) (Nat.lt_of_lt_of_le (hh.lt r L hL) hc.size) (hh.own r row L hr hown hL) (fun k K hk hKk => ?_) (hh.ice r row L hr hown hL)⟩
  by_cases e : k = r
  · subst e; rw [ZJ] at hKk; cases hKk
  · rw [ZA e] at hKk
    exact (hh.apart r k row L K hr (Ne.symm e) hown hL hKk).symm
theorem Zja {r o m z : Nat} {L : Loc} {v : Value} (h : VR ρ (.slice r o m z) v) (hL : ρ r = some (some L)) : ∃ p cap, v = .slice (some p) m cap ∧ m ≤ cap ∧ (cap ≠ 0 → p = ⟨L.block, L.base + o, none⟩) ∧ o + cap * z ≤ L.room := by
  simp only [VR] at h
  obtain ⟨p, cap, rfl, hm, l, hl, hp⟩ := h
  rw [hL] at hl
  cases hl
  exact ⟨p, cap, rfl, hm, (hp L rfl).1, (hp L rfl).2⟩
theorem Zfl (g : Nat) (cs : Array Value) : Chg w (w.setRow g cs) g := ⟨rfl, rfl, rfl, by simp [World.setRow], fun k _ hne => setRow_other _ _ _ _ hne⟩
theorem Chg.refl (w : World) (b : Nat) : Chg w w b := ⟨rfl, rfl, rfl, Nat.le_refl _, fun _ _ _ => rfl⟩
theorem ZdC {t ty e' : TypeId} {i : TypeInfo} (ht : P.underlying t = some (.slice e')) (hi : P.info? e' = some i) (b m cap : Nat) (p : Addr) (k c : Nat) (cur : Array Value) (et : TypeId) (news : List Value)
    (hg : w.heap[b]? = some (.cells cur et (0, 0))) (hl : news.length = k * i.size) (hnews : ∀ j u, news[j]? = some u → w.cell? (p.add j) = some u) (h1 : ∀ u ∈ news, u.oneCell' = true) (hroom : m + k ≤ cap) (hfit : m * i.size + news.length ≤ cur.size) :
    (Builtin.append_ #[t, t] ty #[.slice (some ⟨b, 0, none⟩) m cap, .slice (some p) k c]).run P w = .ok (.slice (some ⟨b, 0, none⟩) (m + k) cap) (w.setRow b (cur.toList.take (m * i.size) ++ news ++ cur.toList.drop (m * i.size + news.length)).toArray) := by
  have hfc := run_firstCells_some (P := P) w i.size k p k c news hl hnews
  have hst := run_storeCells_at (P := P) b (m * i.size) et news 0 cur w hg (by omega) h1
  simp only [Nat.add_zero] at hst
  simp [Builtin.append_, run_underlying ht, sizeOf, typeInfo, hi, Builtin.lenOf, hroom, hfc, Zak, hst]
theorem ZdD {t ty e' : TypeId} {i : TypeInfo} (ht : P.underlying t = some (.slice e')) (hi : P.info? e' = some i) (s : Option Addr) (m cap : Nat) (x : Option Addr) (c : Nat) (hm : m ≤ cap) :
    (Builtin.append_ #[t, t] ty #[.slice s m cap, .slice x 0 c]).run P w = .ok (.slice s m cap) w := by
  have hfc : (Builtin.firstCells i.size 0 (.slice x 0 c)).run P w = .ok #[] w := by
    cases x with
    | none => simp [Builtin.firstCells]
    | some p => simpa using run_firstCells_some (P := P) w i.size 0 p 0 c [] (by simp) (by simp)
  cases s with
  | none => simp [Builtin.append_, run_underlying ht, sizeOf, typeInfo, hi, Builtin.lenOf, hm, hfc]
  | some p => simp [Builtin.append_, run_underlying ht, sizeOf, typeInfo, hi, Builtin.lenOf, hm, hfc, storeCells]
theorem Zao {o : Oper} {s x : Operand} {t : TypeId} (ho : o.op = .call { callee := .builtin .append, args := #[s, x], argTypes := #[t, t] }) {v : Value} {w' : World} (hr : (Builtin.append_ #[t, t] o.type #[a.eval s, a.eval x]).run P w = .ok v w') :
    (execOp a.eval o).run P w = .ok (.value v) w' := by
  simp [execOp, ho, resolve, invoke, builtin, hr]
theorem Zd2 {k z : Nat} {x y : EV} (hh : HR w0 S ρ h w) {v : Value} (hv : VR ρ x v) (hy : ZaU h z k x = some y) :
    Sx.isAgg y = true ∧ clen y = k * z ∧ ∃ (q : Option Addr) (c : Nat), v = .slice q (Zax x) c ∧ k ≤ Zax x ∧ (0 < k → ∃ p, q = some p) ∧ ∃ news : List Value, news.length = k * z ∧ (∀ p, q = some p → 0 < k → ∀ (j : Nat) (u : Value), news[j]? = some u → w.cell? (p.add j) = some u) ∧
      (∀ u ∈ news, u.oneCell' = true) ∧ ∀ (j : Nat) (e : EV), cget y j = some e → ∃ u, news[j]? = some u ∧ VR ρ e u := by
  unfold ZaU at hy
  split at hy
  · split at hy
    · rename_i hk
      subst hk
      simp only [Option.some.injEq] at hy; subst hy
      simp only [VR] at hv
      exact ⟨rfl, by simp [clen], none, 0, by simpa [Zax] using hv, by simp, fun h => absurd h (Nat.lt_irrefl _), [], by simp, fun _ h => (by cases h), by simp, by simp [cget]⟩
    · simp at hy
  · rename_i r off m z'
    split at hy
    · rename_i hc
      obtain ⟨rfl, hkm⟩ := hc
      split at hy
      · rename_i row hrow
        obtain ⟨y1, y2, y3, _, _⟩ := Zan hy
        obtain ⟨L, hL, hR⟩ := hh.live hrow y1
        obtain ⟨p, c, rfl, hm, hp, _⟩ := Zja hv hL
        obtain ⟨news, n1, n2, n3, n4⟩ := ZaO hR.read hy
        refine ⟨y2, y3, some p, c, rfl, hkm, fun _ => ⟨p, rfl⟩, news, n1, fun p' hp' hk j u hj => ?_, n2, n4⟩
        cases hp'
        rw [hp (by omega), Zak]
        exact n3 j u hj
      · simp at hy
    · simp at hy
  · rename_i c m z'
    split at hy
    · rename_i hc
      obtain ⟨rfl, hkm⟩ := hc
      obtain ⟨y1, y2, y3, _, _⟩ := Zan hy
      simp only [VR] at hv
      rcases hv with ⟨⟨q, rfl⟩, h0⟩ | ⟨b, base, cap, rfl, hcap, _, hcont⟩
      · have hk0 : k = 0 := by omega
        subst hk0
        subst h0
        refine ⟨y2, y3, q, 0, rfl, Nat.le_refl _, fun h => absurd h (Nat.lt_irrefl _), [], by simp, fun _ _ h => absurd h (Nat.lt_irrefl _), by simp, fun j e hj => ?_⟩
        rw [ZcZ (by rw [y3]; omega)] at hj
        cases hj
      · obtain ⟨news, n1, n2, n3, n4⟩ := ZaO (L := ⟨b, base, 0, fun _ => 0⟩) (hh.cont hcont) hy
        refine ⟨y2, y3, some ⟨b, base, none⟩, cap, rfl, hkm, fun _ => ⟨_, rfl⟩, news, n1, fun p' hp' hk j u hj => ?_, n2, n4⟩
        cases hp'
        rw [Zak]
        exact n3 j u hj
    · simp at hy
  · simp at hy
theorem Zc1 {v : Value} {z : EV} (hz : ofV v = some z) : v.cells.size = clen z := by
  have := (ZbC (Zfg (ρ := RM.none fun _ => none) hz) (Zb3 hz)).1
  simpa using this
theorem HR.lay' (hh : HR w0 S ρ h w) {i : Nat} (hf : fresh h i = true) {c : EV} {cs : Array Value} {t : TypeId} (hc : CR ρ c (fun j => cs[j]?)) (hl : clen c ≤ cs.size) :
    le ρ (updM ρ i (some ⟨w.heap.size, 0, cs.size, fun _ => 0⟩)) ∧ HR w0 S (updM ρ i (some ⟨w.heap.size, 0, cs.size, fun _ => 0⟩)) (h.set i ⟨true, c⟩) (w.drew.alloc (.cells cs t)) := by
  obtain ⟨hn, hR⟩ := hh.lay hf (w1 := w.drew) (t := t) (room := cs.size) rfl rfl rfl rfl hl (Nat.le_refl _) hc
  exact ⟨ZbD (.inl hn), hR⟩
theorem ZlJ {o : Oper} {s x : Operand} {t e' : TypeId} {i : TypeInfo} {zv : EV} (ho : o.op = .call { callee := .builtin .append, args := #[s, x], argTypes := #[t, t] }) (ht : P.underlying t = some (.slice e')) (hi : P.info? e' = some i)
    (hz : ZcS P e' = some zv) (hzl : clen zv = i.size) (hpos : 0 < i.size) (hb0 : 0 < i.bytes) {s' x' : Opd} (hs : cOpd s = some s') (hx : cOpd x = some x') (hσ : ∀ t, VR ρ (σ t) (a.tmps.getD t undef)) (hh : HR w0 S ρ h w)
    {e : Eff} (he : evOp call n (.app i.size i.bytes s' x') σ h = some e) : Does P o a w0 S ρ h w e := by
  have h1 := ZN hσ hs
  have h2 := ZN hσ hx
  obtain ⟨zval, _, hzv, i', hi', hzi⟩ := Zc0 hz w
  rw [hi] at hi'; cases hi'
  have hzs : zval.cells.size = i.size := by rw [Zc1 hzv, hzl]
  simp only [evOp] at he
  generalize s'.ev σ = SV at *
  generalize x'.ev σ = XV at *
  have h63 : ∀ k : Nat, k * i.bytes ≤ 70368744177664 → k ≤ 70368744177664 := fun k hk => Nat.le_trans (Nat.le_mul_of_pos_right k hb0) hk
  have hzc : ∀ k, (Builtin.zeroCells zval.cells k).size = k * i.size := fun k => by simp [Builtin.zeroCells, hzs]
  split at he
  · -- onto nil
    simp only [VR] at h1
    split at he
    · rename_i hk0
      simp only [Option.map_eq_some_iff] at he
      obtain ⟨y, hy, rfl⟩ := he
      obtain ⟨_, _, q, c, hq, _⟩ := Zd2 hh h2 hy
      rw [hk0] at hq
      exact ZD (ρ' := ρ) (w' := w) (v := .slice none 0 0) (Zao ho (by rw [h1, hq]; exact ZdD ht hi none 0 0 q c (Nat.le_refl _))) (le_refl _) (by simp [VR]) (by simpa using hh)
    · rename_i hk0
      split at he
      · rename_i hcond
        simp only [Option.map_eq_some_iff] at he
        obtain ⟨y, hy, rfl⟩ := he
        obtain ⟨hya, hyl, q, c, hq, _, hqs, news, n1, n2, n3, n4⟩ := Zd2 hh h2 hy
        obtain ⟨p, rfl⟩ := hqs (by omega)
        generalize Zax XV = k at *
        have hk63 := h63 k hcond.2
        have hrun := run_append_nil (P := P) w t o.type e' i zval ht hi hzi p k c news n1 (n2 p rfl (by omega)) (by omega) (by omega) (by omega)
        have hcap := grownCap_ge w k 0 e'
        obtain ⟨hma, hml, hmg⟩ := ZiZ i.size y
        obtain ⟨hle, hR⟩ := hh.lay' hcond.1 (c := ZfD i.size y) (cs := news.toArray ++ Builtin.zeroCells zval.cells (grownCap w k 0 e' - k)) (t := e')
          ⟨Zeo (hma.trans hya), fun j e hj => by
            rw [hmg j] at hj
            obtain ⟨u, hu, hr⟩ := n4 j e hj
            have hlt := (List.getElem?_eq_some_iff.1 hu).1
            refine ⟨u, ?_, n3 u (List.mem_of_getElem? hu), hr⟩
            show (news.toArray ++ _)[j]? = some u
            rw [Array.getElem?_append_left (by simpa using hlt)]
            simpa using hu⟩ (by rw [hml]; simp [n1, hyl])
        refine ZD (v := .slice (some ⟨w.heap.size, 0, none⟩) k (grownCap w k 0 e')) (Zao ho (by rw [h1, hq]; exact hrun)) hle (ZlH hcap ?_) (by simpa [setRow] using hR)
        simp only [Array.size_append, List.size_toArray, n1, hzc]
        rw [← Nat.add_mul]
        exact Nat.mul_le_mul_right _ (by omega)
      · simp at he
  · rename_i r off m z
    split at he
    · rename_i hcond
      obtain ⟨hf, rfl, rfl, hbnd⟩ := hcond
      split at he
      · rename_i row hrow
        split at he
        · rename_i hc
          simp only [Bool.and_eq_true, beq_iff_eq] at hc
          simp only [Option.map_eq_some_iff, Option.bind_eq_some_iff] at he
          obtain ⟨c', ⟨y, hy, hcat⟩, rfl⟩ := he
          obtain ⟨hra, hya', hca, hcl, hcg⟩ := ZjW hcat
          obtain ⟨hya, hyl, q, c, hq, _, hqs, news, n1, n2, n3, n4⟩ := Zd2 hh h2 hy
          generalize Zax XV = k at *
          obtain ⟨L, hL, hR⟩ := hh.live hrow hra
          obtain ⟨pa, cap, hpa, hmc, hpaddr, hcaproom⟩ := Zja h1 hL
          have hread := hR.read
          obtain ⟨hroom, hR'⟩ := hR
          rw [if_pos hc.1] at hR'
          obtain ⟨hb, cs, et, hg, hrs, hcr⟩ := hR'
          simp only [Nat.zero_add] at hcaproom
          have hmk : (m + k) * i.size = m * i.size + k * i.size := Nat.add_mul _ _ _
          by_cases hroomy : m + k ≤ cap
          · -- in place
            have hcapsz : (m + k) * i.size ≤ L.room := Nat.le_trans (Nat.mul_le_mul_right _ hroomy) hcaproom
            let cur' : Array Value := (cs.toList.take (m * i.size) ++ news ++ cs.toList.drop (m * i.size + news.length)).toArray
            have hlen' : cur'.size = cs.size := by simp [cur', n1]; omega
            have hget : ∀ j, cur'[j]? = if m * i.size ≤ j ∧ j < m * i.size + news.length then news[j - m * i.size]? else cs[j]? := by
              intro j
              have := Zdq cs.toList news (m * i.size) j (by rw [n1]; simp; omega)
              simp only [cur', List.getElem?_toArray, List.append_assoc]
              rw [this]
              split <;> simp
            have hrow' : ∀ (w' : World), w'.heap[L.block]? = some (.cells cur' et (0, 0)) → ∀ ρ', le ρ ρ' → RowR ρ' ⟨true, c'⟩ L w' := by
              intro w' hw' ρ' hl'
              refine ⟨by simp only; rw [hcl, hc.2, hyl]; omega, ?_⟩
              rw [if_pos rfl]
              refine ⟨hb, cur', et, hw', by rw [hlen']; exact hrs, Zeo hca, fun j e hj => ?_⟩
              rw [hcg j] at hj
              simp only [hget j]
              split at hj
              · rename_i hjl
                rw [hc.2] at hjl
                rw [if_neg (by omega)]
                obtain ⟨u, h3, h4, h5⟩ := hcr.2 j e hj
                exact ⟨u, h3, h4, ZcH hl' _ _ h5⟩
              · rename_i hjl
                rw [hc.2] at hjl hj
                obtain ⟨u, h3, h5⟩ := n4 _ e hj
                have hlt := (List.getElem?_eq_some_iff.1 h3).1
                rw [if_pos (by omega)]
                exact ⟨u, h3, n3 u (List.mem_of_getElem? h3), ZcH hl' _ _ h5⟩
            by_cases hk0 : k = 0
            · -- nothing is appended
              subst hk0
              have hn0 : news = [] := List.length_eq_zero_iff.1 (by rw [n1]; simp)
              have hcur : cur' = cs := by simp [cur', hn0]
              obtain ⟨_, hle, hM⟩ := hh.move hrow hc.1 hL hf (Chg.refl w _) (hrow' w (by rw [hcur]; exact hg))
              refine ZD (v := .slice (some pa) m cap) (w' := w) (Zao ho (by rw [hpa, hq]; exact ZdD ht hi (some pa) m cap q c hmc)) hle ?_ (by simpa [setRow] using hM)
              simp only [VR]
              refine ⟨pa, cap, rfl, hmc, some L, ZJ _ _ _, fun L' e => ?_⟩
              cases e
              exact ⟨hpaddr, by omega⟩
            · obtain ⟨p, rfl⟩ := hqs (by omega)
              have hpa' : pa = ⟨L.block, 0, none⟩ := by
                have := hpaddr (by omega)
                rw [this, hb]
              rw [hpa'] at hpa
              have hrun := ZdC (P := P) (ty := o.type) ht hi L.block m cap p k c cs et news hg n1 (n2 p rfl (by omega)) n3 hroomy (by rw [n1]; omega)
              obtain ⟨_, hle, hM⟩ := hh.move (c := c') hrow hc.1 hL hf (Zfl L.block cur') (hrow' _ (setRow_heap _ _ _ _ _ _ hg))
              refine ZD (v := .slice (some ⟨L.block, 0, none⟩) (m + k) cap) (Zao ho (by rw [hpa, hq]; exact hrun)) hle ?_ (by simp only [List.foldl_cons, List.foldl_nil, setRow, List.append_nil]; exact hM)
              simp only [VR]
              refine ⟨_, cap, rfl, hroomy, some L, ZJ _ _ _, fun L' e => ?_⟩
              cases e
              exact ⟨fun _ => by rw [hb], by omega⟩
          · -- in new memory
            have hk0 : 0 < k := by omega
            obtain ⟨p, rfl⟩ := hqs hk0
            have hk63 := h63 (m + k) hbnd
            have hold : ∃ olds : List Value, olds.length = m * i.size ∧ (∀ (j : Nat) (u : Value), olds[j]? = some u → w.cell? (pa.add j) = some u) ∧ (∀ u ∈ olds, u.oneCell' = true) ∧ ∀ (j : Nat) (e : EV), cget row.c j = some e → ∃ u, olds[j]? = some u ∧ VR ρ e u := by
              have hsub : ∃ y', csub (.agg (Sx.cells row.c)) 0 (m * i.size) = some y' ∧ ∀ j, j < m * i.size → cget y' j = cget row.c j := by
                have : ∃ y', csub (.agg (Sx.cells row.c)) 0 (m * i.size) = some y' := by
                  have := Zb0 row.c
                  exact ⟨_, if_pos (by omega)⟩
                obtain ⟨y', hy'⟩ := this
                exact ⟨y', hy', fun j hj => by rw [← Za5 hra]; simpa [cget] using (Zan hy').2.2.2.2 j hj⟩
              obtain ⟨y', hy', hgy⟩ := hsub
              have hread' : CR ρ (.agg (Sx.cells row.c)) (fun j => w.cell? ⟨L.block, L.base + j, none⟩) := ⟨rfl, fun j e hj => hread.2 j e (by rw [← Za5 hra]; exact hj)⟩
              obtain ⟨olds, o1, o2, o3, o4⟩ := ZaO hread' hy'
              refine ⟨olds, o1, fun j u hj => ?_, o2, fun j e hj => ?_⟩
              · have hjm : j < m * i.size := by rw [← o1]; exact (List.getElem?_eq_some_iff.1 hj).1
                have hm0 : 0 < m := by
                  rcases Nat.eq_zero_or_pos m with h | h
                  · rw [h] at hjm; simp at hjm
                  · exact h
                rw [hpaddr (by omega), Zak]
                exact o3 j u hj
              · have hjm : j < m * i.size := by rw [← hc.2]; exact ZfJ hj
                exact o4 j e (by rw [hgy j hjm]; exact hj)
            obtain ⟨olds, o1, o2, o3, o4⟩ := hold
            have hrun := run_append_grow (P := P) w t o.type e' i zval ht hi hzi pa m cap olds o1 o2 p k c news n1 (n2 p rfl hk0) (by omega) (by omega) (by
              have := nextslicecap_le (need := m + k) (old := cap) (by omega)
              have h5 : Builtin.nextslicecap (m + k) cap * i.bytes ≤ 2 * (m + k) * i.bytes := Nat.mul_le_mul_right _ this
              have h6 : 2 * (m + k) * i.bytes = 2 * ((m + k) * i.bytes) := by rw [Nat.mul_assoc]
              omega)
            have hcap := grownCap_ge w (m + k) cap e'
            have hK := hh.kill hrow
            have hf' : fresh (h.set r ⟨true, .unk⟩) n = true := by
              have hne : n ≠ r := by
                rintro rfl
                unfold fresh at hf
                rw [hrow] at hf
                generalize row = R at hra hf
                obtain ⟨ow, cc⟩ := R
                simp only at hra
                cases cc <;> simp [Sx.isAgg] at hra <;> cases ow <;> simp at hf
              unfold fresh
              rw [List.getElem?_set_ne (Ne.symm hne)]
              exact hf
            have hleK : le ρ (updM ρ r none) := ZbD (.inr (.inr rfl))
            obtain ⟨hle, hR2⟩ := hK.lay' hf' (c := c') (cs := olds.toArray ++ news.toArray ++ Builtin.zeroCells zval.cells (grownCap w (m + k) cap e' - (m + k))) (t := e')
              ⟨Zeo hca, fun j e hj => by
                rw [hcg j] at hj
                simp only [Array.append_assoc]
                split at hj
                · rename_i hjl
                  rw [hc.2] at hjl
                  obtain ⟨u, hu, hr⟩ := o4 j e hj
                  refine ⟨u, ?_, o3 u (List.mem_of_getElem? hu), ZcH hleK _ _ hr⟩
                  rw [Array.getElem?_append_left (by simp; omega)]
                  simpa using hu
                · rename_i hjl
                  rw [hc.2] at hjl hj
                  obtain ⟨u, hu, hr⟩ := n4 _ e hj
                  have hlt := (List.getElem?_eq_some_iff.1 hu).1
                  refine ⟨u, ?_, n3 u (List.mem_of_getElem? hu), ZcH hleK _ _ hr⟩
                  rw [Array.getElem?_append_right (by simp; omega), Array.getElem?_append_left (by simp; omega)]
                  simpa [o1] using hu⟩ (by simp [o1, n1, hcl, hc.2, hyl])
            refine ZD (v := .slice (some ⟨w.heap.size, 0, none⟩) (m + k) (grownCap w (m + k) cap e')) (Zao ho (by rw [hpa, hq]; exact hrun)) (le_trans hleK hle) (ZlH hcap ?_) (by simpa [setRow] using hR2)
            simp only [Array.size_append, List.size_toArray, o1, n1, hzc]
            rw [← Nat.add_mul, ← Nat.add_mul]
            exact Nat.mul_le_mul_right _ (by omega)
        · simp at he
      · simp at he
    · simp at he
  · simp at he
theorem HR.same_cells {r : Nat} {row : Row} {c' : EV} (hh : HR w0 S ρ h w) (hr : h[r]? = some row) (hown : row.own = true) (ha : Sx.isAgg row.c = true) (ha' : Sx.isAgg c' = true) (hl : clen c' = clen row.c) (hg : ∀ j, cget c' j = cget row.c j) : HR w0 S ρ (h.set r ⟨true, c'⟩) w := by
  obtain ⟨L, hL, hR⟩ := hh.live hr ha
  have hρ : updM ρ r (some L) = ρ := ZfM hL
  have h2 := hh.put (L := L) (row := ⟨true, c'⟩) (w' := w) hr (Chg.refl w _) (.inr hL) rfl (by
    rw [hρ]
    obtain ⟨hroom, hR'⟩ := hR
    rw [if_pos hown] at hR'
    obtain ⟨hb, cs, et, hg', hrs, hcr⟩ := hR'
    refine ⟨by simp only; rw [hl]; exact hroom, ?_⟩
    rw [if_pos rfl]
    exact ⟨hb, cs, et, hg', hrs, Zeo ha', fun j e hj => hcr.2 j e (by rw [← hg j]; exact hj)⟩) (hh.lt r L hL) (hh.own r row L hr hown hL) (fun k K hk hK => (hh.apart r k row L K hr (Ne.symm hk) hown hL hK).symm) (hh.ice r row L hr hown hL)
  rw [hρ] at h2
  exact h2
theorem Zj8 {o : Oper} {d s : Operand} {t t' e' e'' : TypeId} {z : Nat} (ho : o.op = .call { callee := .builtin .copy, args := #[d, s], argTypes := #[t, t'] }) (ht : P.underlying t = some (.slice e')) (hsz : ZP P e' = some (z + 1))
    {d' s' : Opd} (hd : cOpd d = some d') (hs : cOpd s = some s') (hσ : ∀ t, VR ρ (σ t) (a.tmps.getD t undef)) (hh : HR w0 S ρ h w)
    {e : Eff} (he : evOp call n (.copy (z + 1) d' s') σ h = some e) : Does P o a w0 S ρ h w e := by
  have h1 := ZN hσ hd
  have h2 := ZN hσ hs
  simp only [evOp] at he
  generalize d'.ev σ = D at *
  generalize s'.ev σ = SV at *
  have hcall : ∀ {v : Value} {w' : World}, (Builtin.copy_ #[t, t'] o.type #[a.eval d, a.eval s]).run P w = .ok v w' → (execOp a.eval o).run P w = .ok (.value v) w' := by
    intro v w' hr
    simp [execOp, ho, resolve, invoke, builtin, hr]
  split at he
  · rename_i r off m z'
    split at he
    · rename_i hz
      subst hz
      split at he
      · rename_i hnil
        simp only [Option.some.injEq] at he; subst he
        cases SV <;> simp only [Zh2, Bool.false_eq_true] at hnil
        simp only [VR] at h1 h2
        obtain ⟨p, c, hp, _⟩ := h1
        have hfc : (Builtin.firstCells (z + 1) 0 (.slice none 0 0)).run P w = .ok #[] w := by simp [Builtin.firstCells]
        refine ZD (ρ' := ρ) (w' := w) (v := goInt 0) (hcall ?_) (le_refl _) (by simp [VR, goInt]) (by simpa using hh)
        rw [hp, h2]
        simp [Builtin.copy_, run_underlying ht, Builtin.lenOf, Zav hsz, hfc, storeCells]
      · split at he
        · rename_i row hrow
          split at he
          · rename_i hown
            simp only [Option.bind_eq_some_iff, Option.map_eq_some_iff] at he
            obtain ⟨y, hy, c', hput, rfl⟩ := he
            obtain ⟨hya, hyl, q, c, hq, hkl, hqs, news, n1, n2, n3, n4⟩ := Zd2 hh h2 hy
            obtain ⟨hra, hca, hcl, hle, hk, hget⟩ := ZaP hput
            obtain ⟨L, hL, hR⟩ := hh.live hrow hra
            obtain ⟨pa, cap, hpa, hmc, hpaddr, _⟩ := Zja h1 hL
            obtain ⟨hroom, hR'⟩ := hR
            rw [if_pos hown] at hR'
            obtain ⟨hb, cs, et, hg, hrs, hcr⟩ := hR'
            have hmin : Nat.min (Zax SV) m = min (Zax SV) m := rfl
            by_cases hk0 : min (Zax SV) m = 0
            · rw [hk0] at hyl n1
              have hfc : (Builtin.firstCells (z + 1) 0 (.slice q (Zax SV) c)).run P w = .ok #[] w := by
                cases q with
                | none => simp [Builtin.firstCells]
                | some p => simpa using run_firstCells_some (P := P) w (z + 1) 0 p (Zax SV) c [] (by simp) (by simp)
              have hsame : ∀ j, cget c' j = cget row.c j := by
                intro j
                rw [hget j, if_neg (by omega)]
              refine ZD (ρ' := ρ) (w' := w) (v := goInt 0) (hcall ?_) (le_refl _) (by simp [VR, hk0, goInt]) (by simp only [List.foldl_cons, List.foldl_nil, setRow, List.append_nil]; exact hh.same_cells hrow hown hra hca hcl hsame)
              rw [hpa, hq]
              simp [Builtin.copy_, run_underlying ht, Builtin.lenOf, hmin, hk0, Zav hsz, hfc, storeCells]
            · obtain ⟨p, rfl⟩ := hqs (by omega)
              have hpa' := hpaddr (by omega)
              rw [hb, Nat.zero_add] at hpa'
              rw [hpa'] at hpa
              have hfc := run_firstCells_some (P := P) w (z + 1) (min (Zax SV) m) p (Zax SV) c news n1 (n2 p rfl (by omega))
              have hst := run_storeCells_at (P := P) L.block off et news 0 cs w hg (by rw [n1]; omega) n3
              simp only [Nat.add_zero] at hst
              have hW := hh.write hrow hown hL hg hb hrs hcr hput (vs := news) (by rw [n1, hyl]) hroom n3 (fun j e hj => by rw [Za5 hya] at hj; exact n4 j e hj)
              refine ZD (ρ' := ρ) (v := goInt (min (Zax SV) m : Nat)) (hcall (w' := w.setRow L.block (cs.toList.take off ++ news ++ cs.toList.drop (off + news.length)).toArray) ?_) (le_refl _) (by simp [VR, goInt]) (by simp only [List.foldl_cons, List.foldl_nil, setRow, List.append_nil]; exact hW)
              rw [hpa, hq]
              simp only [Builtin.copy_, List.getElem?_toArray, List.getElem?_cons_zero, List.getElem?_cons_succ, Sem.run_bind, run_underlying ht, Result.andThen_ok, Builtin.lenOf, Sem.run_pure, hmin, Zav hsz, hfc, hst]
          · simp at he
        · simp at he
    · simp at he
  · simp only [VR] at h1
    have hall : ∀ (q : Option Addr) (k c : Nat), a.eval s = .slice q k c → (Builtin.copy_ #[t, t'] o.type #[a.eval d, a.eval s]).run P w = .ok (goInt 0) w := by
      intro q k c hq
      have hfc : (Builtin.firstCells (z + 1) 0 (.slice q k c)).run P w = .ok #[] w := by
        cases q with
        | none => simp [Builtin.firstCells]
        | some p => simpa using run_firstCells_some (P := P) w (z + 1) 0 p k c [] (by simp) (by simp)
      rw [h1, hq]
      simp [Builtin.copy_, run_underlying ht, Builtin.lenOf, Zav hsz, hfc]
    split at he
    · simp only [Option.some.injEq] at he; subst he
      simp only [VR] at h2
      exact ZD (ρ' := ρ) (w' := w) (hcall (hall _ _ _ h2)) (le_refl _) (by simp [VR, goInt]) (by simpa using hh)
    · simp only [Option.some.injEq] at he; subst he
      simp only [VR] at h2
      obtain ⟨p, c, hp, _⟩ := h2
      exact ZD (ρ' := ρ) (w' := w) (hcall (hall _ _ _ hp)) (le_refl _) (by simp [VR, goInt]) (by simpa using hh)
    · simp only [Option.some.injEq] at he; subst he
      simp only [VR] at h2
      rcases h2 with ⟨⟨q, hp⟩, _⟩ | ⟨b, base, cap, hp, _⟩
      · exact ZD (ρ' := ρ) (w' := w) (hcall (hall _ _ _ hp)) (le_refl _) (by simp [VR, goInt]) (by simpa using hh)
      · exact ZD (ρ' := ρ) (w' := w) (hcall (hall _ _ _ hp)) (le_refl _) (by simp [VR, goInt]) (by simpa using hh)
    · simp at he
  · simp at he
theorem Zdr : ∀ (l : List Int) (r : List UInt8), l.foldl (fun (b : ByteArray) n => b.push (UInt8.ofNat n.toNat)) ⟨r.toArray⟩ = ⟨(r ++ l.map fun n => UInt8.ofNat n.toNat).toArray⟩
  | [], r => by simp
  | x :: l, r => by
    rw [List.foldl_cons]
    have : (ByteArray.push ⟨r.toArray⟩ (UInt8.ofNat x.toNat)) = ⟨(r ++ [UInt8.ofNat x.toNat]).toArray⟩ := by
      simp [ByteArray.push]
    rw [this, Zdr l]
    simp
theorem Zjb {o : Oper} {s d e' : TypeId} {x : Operand} (ho : o.op = .convert s d x) (hs : P.underlying s = some (.slice e')) (he8 : P.underlying e' = some (.int .u8)) (hd : P.underlying d = some .string)
    {x' : Opd} (hx : cOpd x = some x') (hσ : ∀ t, VR ρ (σ t) (a.tmps.getD t undef)) (hh : HR w0 S ρ h w)
    {e : Eff} (he : evOp call n (.toStr x') σ h = some e) : Does P o a w0 S ρ h w e := by
  have h1 := ZN hσ hx
  simp only [evOp] at he
  generalize x'.ev σ = X at *
  have hcall : ∀ {v : Value} {q : Option Addr} {k c : Nat}, a.eval x = .slice q k c → (Conv.bytesToString (a.eval x)).run P w = .ok v w → (execOp a.eval o).run P w = .ok (.value v) w := by
    intro v q k c hq hr
    rw [hq] at hr
    cases q <;> simp [execOp, ho, hq, convert, run_underlying hs, run_underlying he8, run_underlying hd, hr]
  split at he
  · simp only [Option.some.injEq] at he; subst he
    simp only [VR] at h1
    exact ZD (ρ' := ρ) (w' := w) (v := .string ByteArray.empty) (hcall h1 (by rw [h1]; simp [Conv.bytesToString])) (le_refl _) (by simp only [VR]; rfl) (by simpa using hh)
  · rename_i r off m z
    split at he
    · rename_i row hrow
      simp only [Option.bind_eq_some_iff, Option.map_eq_some_iff] at he
      obtain ⟨y, hy, b, hb, rfl⟩ := he
      obtain ⟨y1, y2, y3, y4, y5⟩ := Zan hy
      obtain ⟨L, hL, hR⟩ := hh.live hrow y1
      obtain ⟨p, c, hpc, hm, hp, _⟩ := Zja h1 hL
      obtain ⟨news, n1, n2, n3, n4⟩ := ZaO hR.read hy
      have hints : ∃ l : List Int, b = l.map (fun n => UInt8.ofNat n.toNat) ∧ news = l.map (Value.int .u8) := by
        unfold ZcE at hb
        clear y5 hy
        split at hb
        · rename_i l
          simp only [Option.some.injEq] at hb
          refine ⟨l, hb.symm, List.ext_getElem? fun j => ?_⟩
          simp only [clen] at y3
          by_cases hj : j < l.length
          · obtain ⟨u, hu, hr⟩ := n4 j (.int .u8 l[j]) (by simp [cget, hj])
            rw [hu, Za7 hr]
            simp [hj]
          · rw [List.getElem?_eq_none (by omega), List.getElem?_eq_none (by simp; omega)]
        · simp only [Option.some.injEq] at hb
          subst hb
          simp [clen] at y3
          exact ⟨[], rfl, List.length_eq_zero_iff.1 (by omega)⟩
        · simp at hb
      obtain ⟨l, rfl, rfl⟩ := hints
      have hlc : (loadCells p m).run P w = .ok (l.map (Value.int .u8)).toArray w := by
        rcases Nat.eq_zero_or_pos m with hm0 | hm0
        · have hl0 : l = [] := by
            have : l.length = 0 := by simpa [hm0] using n1
            exact List.length_eq_zero_iff.1 this
          rw [hm0, hl0]
          rfl
        · have := run_loadCells_list (P := P) w p (l.map (Value.int .u8)) (fun j u hj => by rw [hp (by omega), Zak]; exact n3 j u hj)
          rw [n1] at this
          exact this
      have hrun := run_bytesToString (P := P) w p m c l hlc
      refine ZD (ρ' := ρ) (w' := w) (v := _) (hcall hpc (by rw [hpc]; exact hrun)) (le_refl _) ?_ (by simpa using hh)
      simp only [VR]
      have := Zdr l []
      simp only [List.nil_append] at this
      rw [← this]
      rfl
    · simp at he
  · rename_i cc m z
    simp only [Option.bind_eq_some_iff, Option.map_eq_some_iff] at he
    obtain ⟨y, hy, b, hb, rfl⟩ := he
    obtain ⟨y1, y2, y3, y4, y5⟩ := Zan hy
    simp only [VR] at h1
    rcases h1 with ⟨⟨q, hpc⟩, h0⟩ | ⟨blk, base, c, hpc, hm, _, hcont⟩
    · subst h0
      have hb0 : b = [] := by
        unfold ZcE at hb
        clear y5 hy
        split at hb
        · rename_i l
          simp only [Option.some.injEq] at hb
          simp only [clen] at y3
          rw [← hb, List.length_eq_zero_iff.1 y3]
          rfl
        · simp only [Option.some.injEq] at hb
          exact hb.symm
        · simp at hb
      subst hb0
      cases q with
      | none => exact ZD (ρ' := ρ) (w' := w) (v := .string ByteArray.empty) (hcall hpc (by rw [hpc]; simp [Conv.bytesToString])) (le_refl _) (by simp only [VR]; rfl) (by simpa using hh)
      | some q => exact ZD (ρ' := ρ) (w' := w) (v := _) (hcall hpc (by rw [hpc]; exact run_bytesToString (P := P) w q 0 0 [] rfl)) (le_refl _) (by simp only [VR]; rfl) (by simpa using hh)
    · obtain ⟨news, n1, n2, n3, n4⟩ := ZaO (L := ⟨blk, base, 0, fun _ => 0⟩) (hh.cont hcont) hy
      have hints : ∃ l : List Int, b = l.map (fun n => UInt8.ofNat n.toNat) ∧ news = l.map (Value.int .u8) := by
        unfold ZcE at hb
        clear y5 hy
        split at hb
        · rename_i l
          simp only [Option.some.injEq] at hb
          refine ⟨l, hb.symm, List.ext_getElem? fun j => ?_⟩
          simp only [clen] at y3
          by_cases hj : j < l.length
          · obtain ⟨u, hu, hr⟩ := n4 j (.int .u8 l[j]) (by simp [cget, hj])
            rw [hu, Za7 hr]
            simp [hj]
          · rw [List.getElem?_eq_none (by omega), List.getElem?_eq_none (by simp; omega)]
        · simp only [Option.some.injEq] at hb
          subst hb
          simp [clen] at y3
          exact ⟨[], rfl, List.length_eq_zero_iff.1 (by omega)⟩
        · simp at hb
      obtain ⟨l, rfl, rfl⟩ := hints
      have hlc : (loadCells ⟨blk, base, none⟩ m).run P w = .ok (l.map (Value.int .u8)).toArray w := by
        rcases Nat.eq_zero_or_pos m with hm0 | hm0
        · have hl0 : l = [] := by
            have : l.length = 0 := by simpa [hm0] using n1
            exact List.length_eq_zero_iff.1 this
          rw [hm0, hl0]
          rfl
        · have := run_loadCells_list (P := P) w ⟨blk, base, none⟩ (l.map (Value.int .u8)) (fun j u hj => by rw [Zak]; exact n3 j u hj)
          rw [n1] at this
          exact this
      have hrun := run_bytesToString (P := P) w ⟨blk, base, none⟩ m c l hlc
      refine ZD (ρ' := ρ) (w' := w) (v := _) (hcall hpc (by rw [hpc]; exact hrun)) (le_refl _) ?_ (by simpa using hh)
      simp only [VR]
      have := Zdr l []
      simp only [List.nil_append] at this
      rw [← this]
      rfl
  · simp at he
end
end Go.Sx
