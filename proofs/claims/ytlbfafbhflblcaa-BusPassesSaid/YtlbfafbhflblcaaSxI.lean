/-
  The operations on memory: what the abstract machine does to its rows is what the model does to its blocks. Conditions: none.
-/
import Derived.Test.YtlbfafbhflblcaaSxH
namespace Go.Sx
open Go
set_option linter.unusedVariables false
def Does (P : Program) (o : Oper) (a : Act) (w0 : World) (S : List Nat) (ρ : RM) (h : List Row) (w : World) (e : Eff) : Prop :=
  ∀ (K : Act → World → Prop) (Q : Exit → Act → World → Prop),
    (∀ v w' ρ', le ρ ρ' → VR ρ' e.v v → HR w0 S ρ' (e.upd.foldl setRow h ++ e.news) w' → K (a.put o.dst v) w') → o.wp P a w K Q
section
variable {P : Program} {call : ZS} {a : Act} {w w0 : World} {S : List Nat} {σ : Nat → EV} {ρ : RM} {h : List Row} {n : Nat}
theorem Zbd.does {o : Oper} {e : Eff} (hg : Zbd P o a w ρ e) (hh : HR w0 S ρ h w) : Does P o a w0 S ρ h w e := by
  obtain ⟨v, hr, hv, hu, hn, _⟩ := hg
  intro K Q hK
  simp only [Oper.wp, hr, Oper.upon_value]
  exact hK v w ρ (le_refl _) hv (by rw [hu, hn]; simpa using hh)
theorem ZD {o : Oper} {e : Eff} {v : Value} {w' : World} {ρ' : RM} (hr : (execOp a.eval o).run P w = .ok (.value v) w') (hl : le ρ ρ') (hv : VR ρ' e.v v) (hh : HR w0 S ρ' (e.upd.foldl setRow h ++ e.news) w') : Does P o a w0 S ρ h w e := by
  intro K Q hK
  simp only [Oper.wp, hr, Oper.upon_value]
  exact hK v w' ρ' hl hv hh
theorem Zj6 {o : Oper} {e : Eff} {w' : World} {ρ' : RM} (hr : (execOp a.eval o).run P w = .ok .skip w') (hl : le ρ ρ') (hv : e.v = .unk) (hh : HR w0 S ρ' (e.upd.foldl setRow h ++ e.news) w') : Does P o a w0 S ρ h w e := by
  intro K Q hK
  simp only [Oper.wp, hr, Oper.upon_skip]
  exact hK undef w' ρ' hl (by rw [hv]; simp [VR]) hh
theorem AR.row {x : EV} {v : Value} (hv : VR ρ x v) (hx : isAgg x = true ∨ ZM x = true) : AR ρ (ZfE x) v.cells := by
  obtain ⟨h1, h2, h3⟩ := ZbC hv hx
  have hsz : v.cells.size = clen x := by simpa using h1
  rcases hx with hx | hx
  · have ht : ZfE x = x := by cases x <;> simp [Sx.isAgg] at hx <;> rfl
    rw [ht]
    exact ⟨hx, hsz, h2, fun j e hj => by simpa using h3 j e (by rw [Za5 hx]; exact hj)⟩
  · have hcl : clen x = 1 ∧ cells x = [x] := by cases x <;> simp [ZM] at hx <;> exact ⟨rfl, rfl⟩
    have ht : Sx.isAgg (ZfE x) = true ∧ clen (ZfE x) = 1 ∧ ∀ j, cget (ZfE x) j = [x][j]? := by
      cases x <;> simp [ZM] at hx <;> refine ⟨rfl, rfl, fun j => ?_⟩ <;> cases j <;> simp [ZfE, cget]
    refine ⟨ht.1, by rw [hsz, hcl.1, ht.2.1], h2, fun j e hj => ?_⟩
    rw [ht.2.2 j] at hj
    simpa using h3 j e (by rw [hcl.2]; exact hj)
theorem ZfP (hh : HR w0 S ρ h w) {i : Nat} (hf : fresh h i = true) {c : EV} {cs : Array Value} {t : TypeId} (har : AR ρ c cs) :
    ∃ ρ', ρ' = updM ρ i (some ⟨w.heap.size, 0, cs.size, fun _ => 0⟩) ∧ le ρ ρ' ∧ HR w0 S ρ' (h.set i ⟨true, c⟩) (w.alloc (.cells cs t)) := by
  obtain ⟨hn, hR⟩ := hh.lay hf (w1 := w) (t := t) (room := cs.size) rfl rfl rfl rfl (by rw [har.2.1]; exact Nat.le_refl _) (Nat.le_refl _) har.cr
  exact ⟨_, rfl, ZbD (.inl hn), hR⟩
theorem Znw {i : Nat} {L : Loc} : VR (updM ρ i (some L)) (.ptr i 0) (.pointer (some ⟨L.block, L.base, none⟩)) := by
  simp only [VR]
  refine ⟨_, rfl, some L, ZJ _ _ _, fun L' e => ?_⟩
  cases e
  rfl
theorem ZlH {i m c z : Nat} {L : Loc} (hm : m ≤ c) (hr : c * z ≤ L.room) : VR (updM ρ i (some L)) (.slice i 0 m z) (.slice (some ⟨L.block, L.base, none⟩) m c) := by
  simp only [VR]
  refine ⟨_, _, rfl, hm, some L, ZJ _ _ _, fun L' e => ?_⟩
  cases e
  exact ⟨fun _ => rfl, by omega⟩
theorem Zi8 {o : Oper} {t : TypeId} (ho : o.op = .alloc t) {z : EV} (hz : ZfH P t = some z) (hh : HR w0 S ρ h w) {e : Eff} (he : evOp call n (.alloc z) σ h = some e) : Does P o a w0 S ρ h w e := by
  simp only [evOp] at he
  split at he
  · rename_i hc
    simp only [Bool.and_eq_true] at hc
    simp only [Option.some.injEq] at he; subst he
    unfold ZfH at hz
    simp only [Option.bind_eq_some_iff, Option.map_eq_some_iff] at hz
    obtain ⟨v, ⟨i, hi, hv⟩, l, hl, rfl⟩ := hz
    obtain ⟨p, q⟩ := Zhs (ρ := ρ) hl
    have har : AR ρ (ZcP l) v.cells := AR.of (by simpa using Zif p q) (ZbB l)
    obtain ⟨ρ', rfl, hle, hR⟩ := ZfP hh hc.1 (t := t) har
    refine ZD (ρ' := updM ρ n (some ⟨w.heap.size, 0, v.cells.size, fun _ => 0⟩)) (w' := w.alloc (.cells v.cells t)) (v := .pointer (some ⟨w.heap.size, 0, none⟩)) ?_ hle Znw (by simpa [setRow] using hR)
    simp [execOp, ho, Instr.alloc, zeroValue, typeInfo, hi, hv, newVar, newRow]
  · simp at he
theorem ZlI {o : Oper} {t : TypeId} {x : Operand} (ho : o.op = .box t x) {x' : Opd} (hx : cOpd x = some x') (hσ : ∀ t, VR ρ (σ t) (a.tmps.getD t undef)) (hh : HR w0 S ρ h w) {e : Eff} (he : evOp call n (.box x') σ h = some e) : Does P o a w0 S ρ h w e := by
  have h1 := ZN hσ hx
  simp only [evOp] at he
  split at he
  · rename_i hc
    simp only [Bool.and_eq_true, Bool.or_eq_true] at hc
    simp only [Option.some.injEq] at he; subst he
    obtain ⟨ρ', rfl, hle, hR⟩ := ZfP hh hc.1 (t := t) (AR.row h1 hc.2)
    refine ZD (ρ' := updM ρ n (some ⟨w.heap.size, 0, (a.eval x).cells.size, fun _ => 0⟩)) (w' := w.alloc (.cells (a.eval x).cells t)) (v := .pointer (some ⟨w.heap.size, 0, none⟩)) ?_ hle Znw (by simpa [setRow] using hR)
    simp [execOp, ho, Instr.box, newVar, newRow]
  · simp at he
theorem Zew {α : Type} (l : List α) : ∀ (n j : Nat), j < n * l.length → ((List.replicate n l).flatten)[j]? = l[j % l.length]?
  | 0, j, h => by simp at h
  | n + 1, j, h => by
    rw [List.replicate_succ, List.flatten_cons]
    by_cases hj : j < l.length
    · rw [List.getElem?_append_left hj, Nat.mod_eq_of_lt hj]
    · have hs : (n + 1) * l.length = n * l.length + l.length := by rw [Nat.add_mul]; omega
      rw [List.getElem?_append_right (by omega), Zew l n (j - l.length) (by omega)]
      congr 1
      exact (Nat.mod_eq_sub_mod (by omega)).symm
theorem ZgC {z : EV} (n : Nat) (hz : Sx.isAgg z = true ∨ ZM z = true) : Sx.isAgg (crep n z) = true ∧ clen (crep n z) = n * clen z ∧ ∀ j, j < n * clen z → cget (crep n z) j = (cells z)[j % clen z]? := by
  have key : ∀ z : EV, ZM z = true → (∀ k m, z ≠ .int k m) → Sx.isAgg (crep n z) = true ∧ clen (crep n z) = n * clen z ∧ ∀ j, j < n * clen z → cget (crep n z) j = (cells z)[j % clen z]? := by
    intro z hs hi
    have h1 : crep n z = .agg (List.replicate n z) ∧ clen z = 1 ∧ cells z = [z] := by
      cases z <;> simp [ZM] at hs <;> first | exact ⟨rfl, rfl, rfl⟩ | exact absurd rfl (hi _ _)
    rw [h1.1, h1.2.1, h1.2.2]
    refine ⟨rfl, by simp [clen], fun j hj => ?_⟩
    simp only [cget, Nat.mod_one]
    rw [List.getElem?_replicate, if_pos (by omega)]
    rfl
  cases z with
  | ints k l =>
    refine ⟨rfl, by simp [crep, clen], fun j hj => ?_⟩
    simp only [crep, cget, clen, cells] at hj ⊢
    rw [Zew l n j hj]
    simp
  | mix ks l =>
    refine ⟨rfl, by simp [crep, clen, ZdY], fun j hj => ?_⟩
    simp only [crep, cget, clen, cells] at hj ⊢
    have := Zew (mixC ks l) n j (by rw [ZdY]; exact hj)
    rwa [ZdY] at this
  | nest ks l =>
    refine ⟨rfl, by simp [crep, clen, ZcX], fun j hj => ?_⟩
    simp only [crep, cget, clen, cells] at hj ⊢
    have := Zew (Zhm ks l) n j (by rw [ZcX]; exact hj)
    rwa [ZcX] at this
  | ro c m s => exact key _ rfl (fun _ _ h => by cases h)
  | rp c o => exact key _ rfl (fun _ _ h => by cases h)
  | agg l =>
    refine ⟨rfl, by simp [crep, clen], fun j hj => ?_⟩
    simp only [crep, cget, clen, cells] at hj ⊢
    rw [Zew l n j hj]
  | int k m =>
    refine ⟨rfl, by simp [crep, clen], fun j hj => ?_⟩
    simp only [crep, cget, clen, cells, Nat.mod_one] at hj ⊢
    rw [List.getElem?_replicate, if_pos (by omega)]
    rfl
  | unk => rcases hz with h | h <;> simp [Sx.isAgg, ZM] at h
  | tup l => rcases hz with h | h <;> simp [Sx.isAgg, ZM] at h
  | bool b => exact key _ rfl (fun _ _ h => by cases h)
  | str b => exact key _ rfl (fun _ _ h => by cases h)
  | nilp => exact key _ rfl (fun _ _ h => by cases h)
  | ptr r o => exact key _ rfl (fun _ _ h => by cases h)
  | nils => exact key _ rfl (fun _ _ h => by cases h)
  | slice r o m s => exact key _ rfl (fun _ _ h => by cases h)
  | fn f x y => exact key _ rfl (fun _ _ h => by cases h)
  | nilf => exact key _ rfl (fun _ _ h => by cases h)
  | tree q els => rcases hz with h | h <;> simp [Sx.isAgg, ZM] at h
  | tp r i => exact key _ rfl (fun _ _ h => by cases h)
theorem Zj7 {z : EV} {v : Value} (hv : ofV v = some z) (n : Nat) : AR ρ (crep n z) (madeCells v.cells (n * v.cells.size)) := by
  have hk := Zb3 hv
  obtain ⟨h1, h2, h3⟩ := ZbC (Zfg (ρ := ρ) hv) hk
  have hsz : v.cells.size = clen z := by simpa using h1
  obtain ⟨c1, c2, c3⟩ := ZgC n hk
  have hget : ∀ j, j < n * clen z → (madeCells v.cells (n * v.cells.size))[j]? = v.cells[j % clen z]? := by
    intro j hj
    have hpos : 0 < clen z := by
      rcases Nat.eq_zero_or_pos (clen z) with h | h
      · rw [h] at hj; simp at hj
      · exact h
    have hm : j % v.cells.size < v.cells.size := by rw [hsz]; exact Nat.mod_lt _ hpos
    simp only [madeCells]
    rw [Array.getElem?_map, Array.getElem?_range, if_pos (by rw [hsz]; exact hj)]
    simp only [Option.map_some]
    rw [← hsz, getElem!_pos v.cells (j % v.cells.size) hm, Array.getElem?_eq_getElem hm]
  refine ⟨c1, by rw [size_madeCells, c2, hsz], fun u hu => ?_, fun j e hj => ?_⟩
  · obtain ⟨i, hi⟩ := List.mem_iff_getElem?.1 hu
    simp only [Array.getElem?_toList] at hi
    have hlt : i < n * clen z := by
      have := (Array.getElem?_eq_some_iff.1 hi).1
      rw [size_madeCells, hsz] at this
      exact this
    rw [hget i hlt] at hi
    exact h2 u (Array.mem_toList_iff.2 (Array.mem_of_getElem? hi))
  · have hlt : j < n * clen z := by rw [← c2]; exact ZfJ hj
    rw [c3 j hlt] at hj
    rw [hget j hlt]
    simpa using h3 _ e hj
theorem Zex {o : Oper} {t e' : TypeId} {m z : Nat} {ps : Array (Nat × Operand)} (ho : o.op = .buildSlice t m ps) (hu : P.underlying t = some (.slice e')) (hs : ZP P e' = some (z + 1)) {zv : EV} (hz : ZcS P e' = some zv) (hzl : clen zv = z + 1)
    (hle : m * (z + 1) ≤ 16777216) {qs : List (Nat × Nat × Opd)} (hq : ZcB P t ps.toList = some qs) (hσ : ∀ t, VR ρ (σ t) (a.tmps.getD t undef)) (hh : HR w0 S ρ h w) {e : Eff} (he : evOp call n (.bslice (z + 1) m zv qs) σ h = some e) : Does P o a w0 S ρ h w e := by
  simp only [evOp] at he
  split at he
  · rename_i hf
    simp only [Option.map_eq_some_iff] at he
    obtain ⟨c, hc, rfl⟩ := he
    obtain ⟨v, hzr, hzv, _⟩ := Zc0 hz w
    have hvs : v.cells.size = z + 1 := by
      have := (ZbC (Zfg (ρ := ρ) hzv) (Zb3 hzv)).1
      rw [← hzl]; simpa using this
    have hpo := Zcj (P := P) (place := fun i => some (i * (z + 1), z + 1)) hσ (t := t) (fun i off s' hi => by
      rw [hu] at hi
      simp only [hs, Option.map_some, Option.some.injEq, Prod.mk.injEq] at hi
      obtain ⟨rfl, rfl⟩ := hi
      rfl) hq
    have hmade := Zj7 (ρ := ρ) hzv m
    rw [hvs] at hmade
    obtain ⟨cs', hfill, har⟩ := ZfO (place := fun i => some (i * (z + 1), z + 1)) _ _ hc hmade hpo.1 hpo.2
    obtain ⟨ρ', rfl, hle', hR⟩ := ZfP hh hf (t := e') har
    have hcs : cs'.size = m * (z + 1) := by
      rw [har.2.1]
      have hclen : ∀ (qs : List (Nat × Nat × EV)) (c c' : EV), Za2 c qs = some c' → clen c' = clen c := by
        intro qs
        induction qs with
        | nil => intro c c' h; simp [Za2] at h; subst h; rfl
        | cons q qs ih =>
          intro c c' h
          obtain ⟨off, k, x⟩ := q
          simp only [Za2] at h
          split at h
          · simp only [Option.bind_eq_some_iff] at h
            obtain ⟨c1, h1, h2⟩ := h
            rw [ih c1 c' h2]
            exact (ZaP h1).2.2.1
          · simp at h
      rw [hclen _ _ _ hc, (ZgC m (Zb3 hzv)).2.1, hzl]
    refine ZD (ρ' := updM ρ n (some ⟨w.heap.size, 0, cs'.size, fun _ => 0⟩)) (w' := w.alloc (.cells cs' e')) (v := .slice (some ⟨w.heap.size, 0, none⟩) m m) ?_ hle' (ZlH (Nat.le_refl _) (by rw [hcs]; exact Nat.le_refl _)) (by simpa [setRow] using hR)
    have hpl : (ps.map fun p => (p.1, a.eval p.2)).toList = ps.toList.map fun p => (p.1, a.eval p.2) := by simp
    have hbig : ¬ (m * (z + 1) > 2 ^ 24) := by omega
    have hrun : (Instr.buildSlice t m (ps.map fun p => (p.1, a.eval p.2))).run P w = .ok (.slice (some ⟨w.heap.size, 0, none⟩) m m) (w.alloc (.cells cs' e')) := by
      simp only [Instr.buildSlice, Sem.run_bind, run_underlying hu, Result.andThen_ok, Zav hs, hbig, if_false, hpl]
      by_cases h0 : m * (z + 1) = 0
      · have hm0 : m = 0 := by
          rcases Nat.mul_eq_zero.1 h0 with h | h
          · exact h
          · omega
        have hmc : madeCells v.cells (m * (z + 1)) = (Array.range (m * (z + 1))).map (fun x => (#[] : Array Value)[x % (#[] : Array Value).size]!) := by
          rw [h0]; simp [madeCells]
        rw [hmc] at hfill
        rw [if_pos h0]
        simp only [Sem.run_bind, Sem.run_pure, Result.andThen_ok, hfill]
        simp [newRow]
      · simp only [h0, if_false, Sem.run_bind, hzr, Result.andThen_ok, Sem.run_pure]
        have hfill' : Instr.fill (fun i => some (i * (z + 1), z + 1)) ((Array.range (m * (z + 1))).map (fun x => v.cells[x % v.cells.size]!)) (ps.toList.map fun p => (p.1, a.eval p.2)) = some cs' := hfill
        simp only [hfill']
        simp [newRow]
    simp only [execOp, ho, Sem.run_bind]
    rw [show (fun x : Nat × Operand => (x.1, a.eval x.2)) = (fun p => (p.1, a.eval p.2)) from rfl] at *
    simp [hrun]
  · simp at he
theorem ZgD {o : Oper} {t e' : TypeId} {l c : Operand} (ho : o.op = .makeSlice t l c) {i : TypeInfo} {zv : EV} (hu : P.underlying t = some (.slice e')) (hi : P.info? e' = some i) (hz : ZcS P e' = some zv) (hzl : clen zv = i.size)
    {l' c' : Opd} (hl : cOpd l = some l') (hc : cOpd c = some c') (hσ : ∀ t, VR ρ (σ t) (a.tmps.getD t undef)) (hh : HR w0 S ρ h w) {e : Eff} (he : evOp call n (.mkslice i.size i.bytes zv l' c') σ h = some e) : Does P o a w0 S ρ h w e := by
  have h1 := ZN hσ hl
  have h2 := ZN hσ hc
  simp only [evOp] at he
  split at he
  · rename_i m m' hm hm'
    rw [hm] at h1
    rw [hm'] at h2
    split at he
    · rename_i hcond
      obtain ⟨hf, rfl, h0, hb, h63⟩ := hcond
      simp only [Option.some.injEq] at he; subst he
      obtain ⟨v, hzr, hzv, i', hi', hzi⟩ := Zc0 hz w
      rw [hi] at hi'; cases hi'
      have hvs : v.cells.size = i.size := by
        have := (ZbC (Zfg (ρ := ρ) hzv) (Zb3 hzv)).1
        rw [← hzl]; simpa using this
      have hmade := Zj7 (ρ := ρ) hzv m.toNat
      rw [hvs] at hmade
      obtain ⟨ρ', rfl, hle', hR⟩ := ZfP hh hf (t := e') hmade
      have hr := run_make (P := P) w t e' i v hu hi hzi .i64 .i64 m m h0 (Int.le_refl _) (by omega) h63
      refine ZD (ρ' := updM ρ n (some ⟨w.heap.size, 0, (madeCells v.cells (m.toNat * i.size)).size, fun _ => 0⟩)) (w' := w.alloc (.cells (madeCells v.cells (m.toNat * i.size)) e')) (v := .slice (some ⟨w.heap.size, 0, none⟩) m.toNat m.toNat) ?_ hle' (ZlH (Nat.le_refl _) (by rw [size_madeCells]; exact Nat.le_refl _)) (by simpa [setRow] using hR)
      simp [execOp, ho, Za7 h1, Za7 h2, hr]
    · simp at he
  · simp at he
end
end Go.Sx
