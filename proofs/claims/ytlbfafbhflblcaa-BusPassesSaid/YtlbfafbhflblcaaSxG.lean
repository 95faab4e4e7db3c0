/-
  Structs, arrays and slices by their places: what the abstract machine computes is what the model computes. Conditions: none.
-/
import Derived.Test.YtlbfafbhflblcaaSxF
namespace Go.Sx
open Go
set_option linter.unusedVariables false
section
variable {P : Program} {call : ZS} {a : Act} {w : World} {σ : Nat → EV} {ρ : RM} {h : List Row} {n : Nat}
theorem Zak (b o m : Nat) : (⟨b, o, none⟩ : Addr).add m = ⟨b, o + m, none⟩ := by
  unfold Addr.add
  split
  · rename_i h; subst h; rfl
  · rfl
theorem Zfj {r o m : Nat} {p : Addr} (h : VR ρ (.ptr r o) (.pointer (some p))) : VR ρ (.ptr r (o + m)) (.pointer (some (p.add m))) := by
  simp only [VR] at h ⊢
  obtain ⟨q, hq, l, hl, hL⟩ := h
  simp only [Value.pointer.injEq, Option.some.injEq] at hq
  subst hq
  refine ⟨_, rfl, l, hl, fun L e => ?_⟩
  rw [hL L e, Zak]
  congr 1
  omega
theorem Zgz {c : EV} {o m : Nat} {p : Addr} (h : VR ρ (.rp c o) (.pointer (some p))) : VR ρ (.rp c (o + m)) (.pointer (some (p.add m))) := by
  simp only [VR] at h ⊢
  obtain ⟨b, base, hq, hc⟩ := h
  simp only [Value.pointer.injEq, Option.some.injEq] at hq
  subst hq
  exact ⟨b, base, by rw [Zak, Nat.add_assoc], hc⟩
theorem Zeu {o : Oper} {t : TypeId} {x : Operand} {i : Nat} {fs : Array Field} {f : Field} {k : Nat} (ho : o.op = .fieldAddr t x i) (hu : P.underlying t = some (.struct fs)) (hf : fs[i]? = some f) (hs : ZP P f.type = some (k + 1))
    {e : Eff} {x' : Opd} (hx : cOpd x = some x') (he : evOp call n (.fieldAddr f.offset x') σ h = some e) (hσ : ∀ t, VR ρ (σ t) (a.tmps.getD t undef)) : Zbd P o a w ρ e := by
  have h1 := ZN hσ hx
  simp only [evOp] at he
  split at he
  · rename_i r off hr
    rw [hr] at h1
    simp only [Option.some.injEq] at he; subst he
    obtain ⟨p, hp, _⟩ : ∃ p, a.eval x = .pointer (some p) ∧ True := by simp only [VR] at h1; obtain ⟨p, hp, _⟩ := h1; exact ⟨p, hp, trivial⟩
    rw [hp] at h1
    refine ⟨.pointer (some (p.add f.offset)), ?_, Zfj h1, rfl, rfl, rfl⟩
    cases hi : P.info? f.type with
    | none => simp [ZP, hi] at hs
    | some j =>
      have hj : j.size = k + 1 := by simpa [ZP, hi] using hs
      simp [execOp, ho, hp, Instr.fieldAt, run_underlying hu, hf, Instr.sureAddr, fieldPlace, sizeOf, typeInfo, hi, hj]
  · rename_i c off hr
    rw [hr] at h1
    simp only [Option.some.injEq] at he; subst he
    obtain ⟨p, hp, _⟩ : ∃ p, a.eval x = .pointer (some p) ∧ True := by simp only [VR] at h1; obtain ⟨b, base, hp, _⟩ := h1; exact ⟨_, hp, trivial⟩
    rw [hp] at h1
    refine ⟨.pointer (some (p.add f.offset)), ?_, Zgz h1, rfl, rfl, rfl⟩
    cases hi : P.info? f.type with
    | none => simp [ZP, hi] at hs
    | some j =>
      have hj : j.size = k + 1 := by simpa [ZP, hi] using hs
      simp [execOp, ho, hp, Instr.fieldAt, run_underlying hu, hf, Instr.sureAddr, fieldPlace, sizeOf, typeInfo, hi, hj]
  · simp at he
theorem Zfk {i : EV} {len m : Nat} {v : Value} (h : Ze0 i len = some m) (hv : VR ρ i v) : ∃ k z, v = .int k z ∧ 0 ≤ z ∧ z < len ∧ z.toNat = m ∧ m < len := by
  unfold Ze0 at h
  split at h
  · rename_i k z
    split at h
    · rename_i hc
      simp only [Option.some.injEq] at h
      exact ⟨k, z, Za7 hv, hc.1, hc.2, h, by omega⟩
    · simp at h
  · simp at h
theorem Zi5 {o : Oper} {t e' : TypeId} {x i : Operand} {len z : Nat} (ho : o.op = .indexAddr t x i) (hu : P.underlying t = some (.array len e')) (hs : ZP P e' = some z)
    {e : Eff} {x' i' : Opd} (hx : cOpd x = some x') (hi : cOpd i = some i') (he : evOp call n (.idxA len z x' i') σ h = some e) (hσ : ∀ t, VR ρ (σ t) (a.tmps.getD t undef)) : Zbd P o a w ρ e := by
  have h1 := ZN hσ hx
  have h2 := ZN hσ hi
  simp only [evOp] at he
  split at he
  · rename_i r off hr
    rw [hr] at h1
    simp only [Option.map_eq_some_iff] at he
    obtain ⟨m, hm, rfl⟩ := he
    obtain ⟨k, y, hy, y0, y1, rfl, _⟩ := Zfk hm h2
    obtain ⟨p, hp, _⟩ : ∃ p, a.eval x = .pointer (some p) ∧ True := by simp only [VR] at h1; obtain ⟨p, hp, _⟩ := h1; exact ⟨p, hp, trivial⟩
    rw [hp] at h1
    refine ⟨.pointer (some (p.add (y.toNat * z))), ?_, Zfj h1, rfl, rfl, rfl⟩
    cases hj : P.info? e' with
    | none => simp [ZP, hj] at hs
    | some j =>
      have hjz : j.size = z := by simpa [ZP, hj] using hs
      simp [execOp, ho, hp, hy, Instr.indexAt, asIntOf, run_underlying hu, Instr.sureAddr, y0, y1, sizeOf, typeInfo, hj, hjz]
  · rename_i c off hr
    rw [hr] at h1
    simp only [Option.map_eq_some_iff] at he
    obtain ⟨m, hm, rfl⟩ := he
    obtain ⟨k, y, hy, y0, y1, rfl, _⟩ := Zfk hm h2
    obtain ⟨p, hp, _⟩ : ∃ p, a.eval x = .pointer (some p) ∧ True := by simp only [VR] at h1; obtain ⟨b, base, hp, _⟩ := h1; exact ⟨_, hp, trivial⟩
    rw [hp] at h1
    refine ⟨.pointer (some (p.add (y.toNat * z))), ?_, Zgz h1, rfl, rfl, rfl⟩
    cases hj : P.info? e' with
    | none => simp [ZP, hj] at hs
    | some j =>
      have hjz : j.size = z := by simpa [ZP, hj] using hs
      simp [execOp, ho, hp, hy, Instr.indexAt, asIntOf, run_underlying hu, Instr.sureAddr, y0, y1, sizeOf, typeInfo, hj, hjz]
  · simp at he
theorem Zi6 {o : Oper} {t e' : TypeId} {x i : Operand} {z : Nat} (ho : o.op = .indexAddr t x i) (hu : P.underlying t = some (.slice e')) (hs : ZP P e' = some z)
    {e : Eff} {x' i' : Opd} (hx : cOpd x = some x') (hi : cOpd i = some i') (he : evOp call n (.idxS z x' i') σ h = some e) (hσ : ∀ t, VR ρ (σ t) (a.tmps.getD t undef)) : Zbd P o a w ρ e := by
  have h1 := ZN hσ hx
  have h2 := ZN hσ hi
  simp only [evOp] at he
  split at he
  · rename_i r off len z' hr
    rw [hr] at h1
    split at he
    · simp only [Option.map_eq_some_iff] at he
      obtain ⟨m, hm, rfl⟩ := he
      obtain ⟨k, y, hy, y0, y1, rfl, hlt⟩ := Zfk hm h2
      simp only [VR] at h1
      obtain ⟨p, c, hp, hc, l, hl, hL⟩ := h1
      refine ⟨.pointer (some (p.add (y.toNat * z))), ?_, ?_, rfl, rfl, rfl⟩
      · cases hj : P.info? e' with
        | none => simp [ZP, hj] at hs
        | some j =>
          have hjz : j.size = z := by simpa [ZP, hj] using hs
          simp [execOp, ho, hp, hy, Instr.indexAt, asIntOf, run_underlying hu, y0, y1, sizeOf, typeInfo, hj, hjz]
      · simp only [VR]
        refine ⟨_, rfl, l, hl, fun L e => ?_⟩
        rw [(hL L e).1 (by omega), Zak]
        congr 1
        omega
    · simp at he
  · rename_i c len z' hr
    rw [hr] at h1
    split at he
    · simp only [Option.map_eq_some_iff] at he
      obtain ⟨m, hm, rfl⟩ := he
      obtain ⟨k, y, hy, y0, y1, rfl, hlt⟩ := Zfk hm h2
      simp only [VR] at h1
      rcases h1 with ⟨_, h0⟩ | ⟨b, base, cap, hp, hc, hz, hcont⟩
      · omega
      refine ⟨.pointer (some ((⟨b, base, none⟩ : Addr).add (y.toNat * z))), ?_, ?_, rfl, rfl, rfl⟩
      · cases hj : P.info? e' with
        | none => simp [ZP, hj] at hs
        | some j =>
          have hjz : j.size = z := by simpa [ZP, hj] using hs
          simp [execOp, ho, hp, hy, Instr.indexAt, asIntOf, run_underlying hu, y0, y1, sizeOf, typeInfo, hj, hjz]
      · simp only [VR]
        exact ⟨b, base, by rw [Zak], hcont⟩
    · simp at he
  · simp at he
theorem Zij {x y : EV} {off m : Nat} {t : TypeId} (h : csub x off m = some y) (hs : ZP P t = some m) (ha : aggT P t = some true) {v : Value} (hv : VR ρ x v) :
    ∃ cs : Array Value, v = .agg cs ∧ ∃ u, (part t cs off).run P w = .ok u w ∧ VR ρ y u := by
  obtain ⟨hx, hy, hl, hle, hg⟩ := Zan h
  obtain ⟨cs, rfl, hlen, hone, hget⟩ := Zen hv hx
  refine ⟨cs.toArray, rfl, .agg (cs.toArray.extract off (off + m)), ?_, ?_⟩
  · unfold aggT at ha
    cases hu : P.underlying t with
    | none => simp [hu] at ha
    | some T =>
      rw [hu] at ha
      cases hi : P.info? t with
      | none => simp [ZP, hi] at hs
      | some i =>
        have : i.size = m := by simpa [ZP, hi] using hs
        rw [Zb1 w hu (by cases T <;> simp at ha ⊢) hi, this]
  · have he : cs.toArray.extract off (off + m) = ((cs.drop off).take m).toArray := by
      apply Array.ext'
      simp [List.extract_eq_take_drop]
    rw [he]
    refine Zbs hy (by simp; omega) (fun c hc => hone c (List.mem_of_mem_drop (List.mem_of_mem_take hc))) fun j e hj => ?_
    have hjm : j < m := by rw [← hl]; exact ZfJ hj
    rw [hg j hjm] at hj
    obtain ⟨u, hu, hr⟩ := hget _ e hj
    exact ⟨u, by rw [List.getElem?_take_of_lt hjm, List.getElem?_drop]; exact hu, hr⟩
theorem Zik {x y : EV} {off : Nat} {t : TypeId} (hx : isAgg x = true) (h : cget x off = some y) (ha : aggT P t = some false) {v : Value} (hv : VR ρ x v) :
    ∃ cs : Array Value, v = .agg cs ∧ ∃ u, (part t cs off).run P w = .ok u w ∧ VR ρ y u := by
  obtain ⟨cs, rfl, hlen, hone, hget⟩ := Zen hv hx
  obtain ⟨u, hu, hr⟩ := hget off y h
  refine ⟨cs.toArray, rfl, u, ?_, hr⟩
  unfold aggT at ha
  cases hT : P.underlying t with
  | none => simp [hT] at ha
  | some T =>
    rw [hT] at ha
    exact Zb2 w hT (by cases T <;> simp at ha ⊢) _ off (by simpa using hu)
theorem Zbt {t : TypeId} {m : Nat} (h : ZbY P t = some (some m)) : aggT P t = some true ∧ ZP P t = some m := by
  unfold ZbY at h
  split at h <;> simp at h
  subst h
  exact ⟨by assumption, by assumption⟩
theorem Zbu {t : TypeId} (h : ZbY P t = some none) : aggT P t = some false := by
  unfold ZbY at h
  split at h <;> simp at h
  assumption
theorem Zhu {o : Oper} {t : TypeId} {x : Operand} {i : Nat} {fs : Array Field} {f : Field} {sh : Option Nat} (ho : o.op = .field t x i) (hu : P.underlying t = some (.struct fs)) (hf : fs[i]? = some f) (hs : ZbY P f.type = some sh)
    {e : Eff} {x' : Opd} (hx : cOpd x = some x') (he : evOp call n (.field f.offset sh x') σ h = some e) (hσ : ∀ t, VR ρ (σ t) (a.tmps.getD t undef)) : Zbd P o a w ρ e := by
  have h1 := ZN hσ hx
  cases sh with
  | none =>
    simp only [evOp] at he
    split at he
    · rename_i hag
      simp only [Option.map_eq_some_iff] at he
      obtain ⟨v, hv, rfl⟩ := he
      obtain ⟨cs, hc, u, hru, hr⟩ := Zik (P := P) (w := w) hag hv (Zbu hs) h1
      exact ⟨u, by simp [execOp, ho, Instr.field, run_underlying hu, hf, hc, asAgg, hru], hr, rfl, rfl, rfl⟩
    · simp at he
  | some m =>
    simp only [evOp, Option.map_eq_some_iff] at he
    obtain ⟨v, hv, rfl⟩ := he
    obtain ⟨ha, hsz⟩ := Zbt hs
    obtain ⟨cs, hc, u, hru, hr⟩ := Zij (P := P) (w := w) hv hsz ha h1
    exact ⟨u, by simp [execOp, ho, Instr.field, run_underlying hu, hf, hc, asAgg, hru], hr, rfl, rfl, rfl⟩
theorem Zi7 {o : Oper} {t e' : TypeId} {x i : Operand} {len z : Nat} {ag : Bool} (ho : o.op = .index t x i) (hu : P.underlying t = some (.array len e')) (hs : ZP P e' = some z) (hag : aggT P e' = some ag)
    {e : Eff} {x' i' : Opd} (hx : cOpd x = some x') (hi : cOpd i = some i') (he : evOp call n (.idxV len z ag x' i') σ h = some e) (hσ : ∀ t, VR ρ (σ t) (a.tmps.getD t undef)) : Zbd P o a w ρ e := by
  have h1 := ZN hσ hx
  have h2 := ZN hσ hi
  simp only [evOp, Option.bind_eq_some_iff] at he
  obtain ⟨m, hm, he⟩ := he
  obtain ⟨k, y, hy, y0, y1, rfl, hlt⟩ := Zfk hm h2
  have hsz : (sizeOf e').run P w = .ok z w := by
    cases hj : P.info? e' with
    | none => simp [ZP, hj] at hs
    | some j =>
      have hjz : j.size = z := by simpa [ZP, hj] using hs
      simp [sizeOf, typeInfo, hj, hjz]
  have hrun : ∀ (cs : Array Value) (u : Value), a.eval x = .agg cs → (part e' cs (y.toNat * z)).run P w = .ok u w → (execOp a.eval o).run P w = .ok (.value u) w := by
    intro cs u hc hp
    simp [execOp, ho, hc, hy, Instr.index, asIntOf, run_underlying hu, y0, y1, hsz, hp]
  split at he
  · rename_i hagt
    simp only [Option.map_eq_some_iff] at he
    obtain ⟨v, hv, rfl⟩ := he
    obtain ⟨cs, hc, u, hru, hr⟩ := Zij (P := P) (w := w) hv hs (by rw [hag, hagt]) h1
    exact ⟨u, hrun cs u hc hru, hr, rfl, rfl, rfl⟩
  · rename_i hagf
    simp only [Option.map_eq_some_iff] at he
    obtain ⟨v, hv, rfl⟩ := he
    have hxa : isAgg (x'.ev σ) = true := by
      generalize x'.ev σ = X at hv
      cases X <;> simp [cget] at hv <;> rfl
    obtain ⟨cs, hc, u, hru, hr⟩ := Zik (P := P) (w := w) hxa hv (by rw [hag]; simp at hagf; rw [hagf]) h1
    exact ⟨u, hrun cs u hc hru, hr, rfl, rfl, rfl⟩
theorem ZgA {o : Oper} {t : TypeId} {x i : Operand} (ho : o.op = .index t x i) (hu : P.underlying t = some .string)
    {e : Eff} {x' i' : Opd} (hx : cOpd x = some x') (hi : cOpd i = some i') (he : evOp call n (.idxStr x' i') σ h = some e) (hσ : ∀ t, VR ρ (σ t) (a.tmps.getD t undef)) : Zbd P o a w ρ e := by
  have h1 := ZN hσ hx
  have h2 := ZN hσ hi
  simp only [evOp] at he
  split at he
  · rename_i s hs
    rw [hs] at h1
    simp only [Option.bind_eq_some_iff, Option.map_eq_some_iff] at he
    obtain ⟨m, hm, b, hb, rfl⟩ := he
    obtain ⟨k, y, hy, y0, y1, rfl, hlt⟩ := Zfk hm h2
    refine ⟨_, ?_, ZcJ _ _, rfl, rfl, rfl⟩
    have hbs : (⟨s.toArray⟩ : ByteArray)[y.toNat]? = some b := by
      rw [getElem?_pos _ _ (by rw [Zd1]; exact hlt)]
      congr 1
      have : s[y.toNat] = b := by simpa [List.getElem?_eq_getElem hlt] using hb
      exact this
    simp [execOp, ho, Zeq h1, hy, Instr.index, asIntOf, run_underlying hu, y0, hbs]
  · simp at he
def ZlG (ρ : RM) : Option EV → Option Value → Prop
  | none, none => True
  | some e, some v => VR ρ e v
  | _, _ => False
theorem ZaV (hσ : ∀ t, VR ρ (σ t) (a.tmps.getD t undef)) {x : Option Operand} {y : Option Opd} (h : Zeh x = some y) : ZlG ρ (y.map (·.ev σ)) (x.map a.eval) := by
  cases x with
  | none => simp [Zeh] at h; subst h; trivial
  | some x =>
    simp only [Zeh, Option.map_eq_some_iff] at h
    obtain ⟨y, hy, rfl⟩ := h
    exact ZN hσ hy
theorem Zil {x : Option EV} {v : Option Value} {d top m : Nat} (h : Zam x d top = some m) (hv : ZlG ρ x v) : (v = none ∧ m = d) ∨ ∃ k z, v = some (.int k z) ∧ 0 ≤ z ∧ z ≤ top ∧ z.toNat = m := by
  cases x with
  | none =>
    cases v with
    | none => simp [Zam] at h; exact .inl ⟨rfl, h.symm⟩
    | some v => exact hv.elim
  | some x =>
    cases v with
    | none => exact hv.elim
    | some v =>
      cases x <;> simp [Zam] at h
      rename_i k z
      exact .inr ⟨k, z, by rw [Za7 (ρ := ρ) hv], h.1.1, h.1.2, h.2⟩
theorem ZaC {isS : Bool} {len cap lo hi : Nat} {x y : Option EV} {u v : Option Value} (hle : len ≤ cap) (hh : Zam y len len = some hi) (hl : Zam x 0 hi = some lo) (hy : ZlG ρ y v) (hx : ZlG ρ x u) :
    (Instr.sliceBounds isS len cap u v none).run P w = .ok (lo, hi, cap) w ∧ lo ≤ hi ∧ hi ≤ len := by
  have h1 := Zil hh hy
  have h2 := Zil hl hx
  rcases h1 with ⟨rfl, rfl⟩ | ⟨k, z, rfl, z0, z1, rfl⟩
  · rcases h2 with ⟨rfl, rfl⟩ | ⟨k', z', rfl, z0', z1', rfl⟩
    · exact ⟨by simp [Instr.sliceBounds], Nat.zero_le _, Nat.le_refl _⟩
    · exact ⟨by simp [Instr.sliceBounds, Instr.sliceBound, asIntOf, z0', z1'], by omega, Nat.le_refl _⟩
  · have hc : z ≤ (cap : Int) := by omega
    rcases h2 with ⟨rfl, rfl⟩ | ⟨k', z', rfl, z0', z1', rfl⟩
    · exact ⟨by simp [Instr.sliceBounds, Instr.sliceBound, asIntOf, z0, hc], Nat.zero_le _, by omega⟩
    · have hz : z' ≤ z := by omega
      exact ⟨by simp [Instr.sliceBounds, Instr.sliceBound, asIntOf, z0, hc, z0', hz, Int.toNat_of_nonneg z0], by omega, by omega⟩
theorem Zhv {o : Oper} {t : TypeId} {x : Operand} {lo hi : Option Operand} (ho : o.op = .slice t x lo hi none) (hu : P.underlying t = some .string)
    {e : Eff} {x' : Opd} {lo' hi' : Option Opd} (hx : cOpd x = some x') (hl : Zeh lo = some lo') (hh : Zeh hi = some hi') (he : evOp call n (.slStr x' lo' hi') σ h = some e) (hσ : ∀ t, VR ρ (σ t) (a.tmps.getD t undef)) : Zbd P o a w ρ e := by
  have h1 := ZN hσ hx
  simp only [evOp] at he
  split at he
  · rename_i s hs
    rw [hs] at h1
    simp only [Option.bind_eq_some_iff, Option.map_eq_some_iff] at he
    obtain ⟨b, hb, c, hc, rfl⟩ := he
    obtain ⟨hr, h3, h4⟩ := ZaC (P := P) (w := w) (isS := false) (Nat.le_refl s.length) hb hc (ZaV hσ hh) (ZaV hσ hl)
    refine ⟨.string ((⟨s.toArray⟩ : ByteArray).extract c b), ?_, ?_, rfl, rfl, rfl⟩
    · simp [execOp, ho, Zeq h1, Instr.sliceAt, Instr.slice, run_underlying hu, Zd1, hr]
    · simp only [VR]
      congr 1
      apply ByteArray.ext
      simp [List.extract_eq_take_drop]
  · simp at he
theorem Zmq {r o c b z len cap : Nat} {p : Option Addr} (h : VR ρ (.slice r o len z) (.slice p len cap)) (h1 : c ≤ b) (h2 : b ≤ len) : VR ρ (.slice r (o + c * z) (b - c) z) (.slice (if cap = c then p else p.map (·.add (c * z))) (b - c) (cap - c)) := by
  simp only [VR] at h ⊢
  obtain ⟨q, k, hq, hk, l, hl, hL⟩ := h
  simp only [Value.slice.injEq, true_and] at hq
  obtain ⟨rfl, rfl⟩ := hq
  by_cases hc : cap = c
  · subst hc
    refine ⟨q, 0, by simp, by omega, l, hl, fun L e => ⟨fun h => absurd rfl h, ?_⟩⟩
    have := (hL L e).2
    simpa using this
  · refine ⟨q.add (c * z), cap - c, by simp [hc], by omega, l, hl, fun L e => ⟨fun _ => ?_, ?_⟩⟩
    · rw [(hL L e).1 (by omega), Zak]
      congr 1
      omega
    · have h5 := (hL L e).2
      have h6 : c * z + (cap - c) * z = cap * z := by rw [← Nat.add_mul]; congr 1; omega
      omega
theorem Zj4 {o : Oper} {t e' : TypeId} {x : Operand} {lo hi : Option Operand} {z : Nat} (ho : o.op = .slice t x lo hi none) (hu : P.underlying t = some (.slice e')) (hs : ZP P e' = some z)
    {e : Eff} {x' : Opd} {lo' hi' : Option Opd} (hx : cOpd x = some x') (hl : Zeh lo = some lo') (hh : Zeh hi = some hi') (he : evOp call n (.slS z x' lo' hi') σ h = some e) (hσ : ∀ t, VR ρ (σ t) (a.tmps.getD t undef)) : Zbd P o a w ρ e := by
  have h1 := ZN hσ hx
  have hsz : (sizeOf e').run P w = .ok z w := by
    cases hj : P.info? e' with
    | none => simp [ZP, hj] at hs
    | some j =>
      have hjz : j.size = z := by simpa [ZP, hj] using hs
      simp [sizeOf, typeInfo, hj, hjz]
  simp only [evOp] at he
  split at he
  · rename_i r off len z' hr
    rw [hr] at h1
    split at he
    · rename_i hz
      subst hz
      simp only [Option.bind_eq_some_iff, Option.map_eq_some_iff] at he
      obtain ⟨b, hb, c, hc, rfl⟩ := he
      obtain ⟨p, cap, hp, hcap⟩ : ∃ p cap, a.eval x = .slice p len cap ∧ len ≤ cap := by simp only [VR] at h1; obtain ⟨p, c, hp, hc, _⟩ := h1; exact ⟨_, _, hp, hc⟩
      obtain ⟨hrn, h3, h4⟩ := ZaC (P := P) (w := w) (isS := true) hcap hb hc (ZaV hσ hh) (ZaV hσ hl)
      rw [hp] at h1
      refine ⟨.slice (if cap = c then p else p.map (·.add (c * z'))) (b - c) (cap - c), ?_, Zmq h1 h3 h4, rfl, rfl, rfl⟩
      simp [execOp, ho, hp, Instr.sliceAt, Instr.slice, run_underlying hu, hrn, hsz]
    · simp at he
  · rename_i hr
    rw [hr] at h1
    simp only [Option.bind_eq_some_iff, Option.map_eq_some_iff] at he
    obtain ⟨b, hb, c, hc, rfl⟩ := he
    simp only [VR] at h1
    obtain ⟨hrn, h3, h4⟩ := ZaC (P := P) (w := w) (isS := true) (Nat.le_refl 0) hb hc (ZaV hσ hh) (ZaV hσ hl)
    have hb0 : b = 0 := by omega
    have hc0 : c = 0 := by omega
    subst hb0; subst hc0
    refine ⟨.slice none 0 0, ?_, by simp [VR], rfl, rfl, rfl⟩
    simp [execOp, ho, h1, Instr.sliceAt, Instr.slice, run_underlying hu, hrn, hsz]
  · rename_i c len z' hr
    rw [hr] at h1
    split at he
    · rename_i hz
      subst hz
      simp only [Option.bind_eq_some_iff] at he
      obtain ⟨b, hb, c', hc, he⟩ := he
      split at he
      · rename_i hc0
        subst hc0
        simp only [Option.some.injEq] at he; subst he
        simp only [VR] at h1
        rcases h1 with ⟨⟨q, hp⟩, h0⟩ | ⟨blk, base, cap, hp, hcap, hz, hcont⟩
        · subst h0
          obtain ⟨hrn, h3, h4⟩ := ZaC (P := P) (w := w) (isS := true) (Nat.le_refl 0) hb hc (ZaV hσ hh) (ZaV hσ hl)
          have hb0 : b = 0 := by omega
          subst hb0
          refine ⟨.slice q 0 0, ?_, by simp [VR, roR, ZmI], rfl, rfl, rfl⟩
          simp [execOp, ho, hp, Instr.sliceAt, Instr.slice, run_underlying hu, hrn, hsz]
        · obtain ⟨hrn, h3, h4⟩ := ZaC (P := P) (w := w) (isS := true) hcap hb hc (ZaV hσ hh) (ZaV hσ hl)
          refine ⟨.slice (if cap = 0 then some ⟨blk, base, none⟩ else (some (⟨blk, base, none⟩ : Addr)).map (·.add (0 * z'))) (b - 0) (cap - 0), ?_, ?_, rfl, rfl, rfl⟩
          · simp [execOp, ho, hp, Instr.sliceAt, Instr.slice, run_underlying hu, hrn, hsz]
          · simp only [VR]
            have hbz := Nat.mul_le_mul_right z' h4
            refine .inr ⟨blk, base, cap, ?_, by omega, by rw [ZjR hcont (by omega)]; exact Nat.le_refl _, ZiY hcont⟩
            rw [Nat.zero_mul, Nat.sub_zero, Nat.sub_zero]
            split
            · rfl
            · simp [Zak]
      · simp at he
    · simp at he
  · simp at he
theorem Zj5 {o : Oper} {t e' : TypeId} {x : Operand} {lo hi : Option Operand} {m z : Nat} {w0 : World} {S : List Nat} (ho : o.op = .slice t x lo hi none) (hu : P.underlying t = some (.array m e')) (hs : ZP P e' = some z) (hh' : HR w0 S ρ h w)
    {e : Eff} {x' : Opd} {lo' hi' : Option Opd} (hx : cOpd x = some x') (hl : Zeh lo = some lo') (hh : Zeh hi = some hi') (he : evOp call n (.slA m z x' lo' hi') σ h = some e) (hσ : ∀ t, VR ρ (σ t) (a.tmps.getD t undef)) : Zbd P o a w ρ e := by
  have h1 := ZN hσ hx
  have hsz : (sizeOf e').run P w = .ok z w := by
    cases hj : P.info? e' with
    | none => simp [ZP, hj] at hs
    | some j =>
      have hjz : j.size = z := by simpa [ZP, hj] using hs
      simp [sizeOf, typeInfo, hj, hjz]
  simp only [evOp] at he
  split at he
  · rename_i r off hr
    rw [hr] at h1
    simp only [Option.bind_eq_some_iff] at he
    obtain ⟨b, hb, c, hc, he⟩ := he
    split at he
    · rename_i row hrow
      split at he
      · rename_i hcond
        simp only [Bool.and_eq_true, decide_eq_true_eq] at hcond
        simp only [Option.some.injEq] at he; subst he
        obtain ⟨hrn, h3, h4⟩ := ZaC (P := P) (w := w) (isS := false) (Nat.le_refl m) hb hc (ZaV hσ hh) (ZaV hσ hl)
        simp only [VR] at h1
        obtain ⟨p, hp, l, hlr, hL⟩ := h1
        have hv : VR ρ (.slice r off m z) (.slice (some p) m m) := by
          simp only [VR]
          refine ⟨p, m, rfl, Nat.le_refl _, l, hlr, fun L e => ⟨fun _ => hL L e, ?_⟩⟩
          obtain ⟨L', hL', hR⟩ := hh'.live hrow hcond.1
          rw [hL'] at hlr
          cases hlr
          cases e
          exact Nat.le_trans hcond.2 hR.1
        have := Zmq hv h3 h4
        refine ⟨_, ?_, this, rfl, rfl, rfl⟩
        simp only [execOp, ho, hp, Option.map_none, Instr.sliceAt, Sem.run_bind, run_underlying hu, Result.andThen_ok, Instr.sureAddr, Sem.run_pure, hrn, hsz]
        by_cases hmc : m = c <;> simp [hmc]
      · simp at he
    · simp at he
  · simp at he
end
end Go.Sx
