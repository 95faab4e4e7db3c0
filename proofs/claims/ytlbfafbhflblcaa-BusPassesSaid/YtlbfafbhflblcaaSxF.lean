/-
  The operations that ZfG memory alone: what the abstract machine computes is what the model computes. Conditions: none.
-/
import Derived.Test.YtlbfafbhflblcaaSxE
namespace Go.Sx
open Go
set_option linter.unusedVariables false
theorem ZjZ {ρ : RM} {v : Value} {e : EV} (h : ofV1 v = some e) : VR ρ e v ∧ v.oneCell' = true := by
  unfold ofV1 at h
  split at h <;> (try (simp at h; done)) <;> simp only [Option.some.injEq] at h <;> subst h <;> exact ⟨by simp [VR], rfl⟩
theorem Zhs {ρ : RM} : ∀ {l : List Value} {r : List EV}, ofVL l = some r → VRs ρ r l ∧ ∀ c ∈ l, c.oneCell' = true
  | [], r, h => by simp [ofVL] at h; subst h; exact ⟨by simp [VRs], by simp⟩
  | v :: l, r, h => by
    simp only [ofVL] at h
    split at h
    · rename_i e r' h1 h2
      simp only [Option.some.injEq] at h
      subst h
      obtain ⟨p, q⟩ := ZjZ (ρ := ρ) h1
      obtain ⟨p', q'⟩ := Zhs (ρ := ρ) h2
      refine ⟨by simp only [VRs]; exact ⟨v, l, rfl, p, p'⟩, fun c hc => ?_⟩
      rcases List.mem_cons.1 hc with rfl | hc
      · exact q
      · exact q' c hc
    · simp at h
theorem Zif {ρ : RM} {l : List EV} {cs : List Value} (h : VRs ρ l cs) (hc : ∀ c ∈ cs, c.oneCell' = true) : VR ρ (ZcP l) (.agg cs.toArray) :=
  Zbs (ZbB l) (by rw [Zfb]; exact Zbp h) hc fun j e hj => Zek h j e (by rw [← Zch]; exact hj)
theorem Zfg {ρ : RM} {v : Value} {e : EV} (h : ofV v = some e) : VR ρ e v := by
  unfold ofV at h
  split at h
  · rename_i cs
    simp only [Option.map_eq_some_iff] at h
    obtain ⟨l, hl, rfl⟩ := h
    obtain ⟨p, q⟩ := Zhs (ρ := ρ) hl
    exact Zif p q
  · exact (ZjZ h).1
section
variable {P : Program} {call : ZS} {a : Act} {w : World} {σ : Nat → EV} {ρ : RM} {h : List Row} {n : Nat}
theorem ZN (hσ : ∀ t, VR ρ (σ t) (a.tmps.getD t undef)) {x : Operand} {y : Opd} (hx : cOpd x = some y) : VR ρ (y.ev σ) (a.eval x) := by
  cases x <;> simp [cOpd] at hx
  · subst hx; exact hσ _
  · obtain ⟨e, he, rfl⟩ := hx
    exact Zfg he
  · obtain ⟨hlt, rfl⟩ := hx
    simp only [Opd.ev, Act.eval, VR, VRs]
    exact ⟨[], [], by rw [ZcY hlt], rfl, rfl⟩
theorem Za6 (hσ : ∀ t, VR ρ (σ t) (a.tmps.getD t undef)) : ∀ {l : List Operand} {r : List Opd}, ZaZ l = some r → VRs ρ (r.map (·.ev σ)) (l.map a.eval)
  | [], r, h => by simp [ZaZ] at h; subst h; simp [VRs]
  | x :: l, r, h => by
    simp only [ZaZ] at h
    split at h
    · rename_i y r' h1 h2
      simp only [Option.some.injEq] at h
      subst h
      simp only [List.map_cons, VRs]
      exact ⟨_, _, rfl, ZN hσ h1, Za6 hσ h2⟩
    · simp at h
def Zbd (P : Program) (o : Oper) (a : Act) (w : World) (ρ : RM) (e : Eff) : Prop :=
  ∃ v, (execOp a.eval o).run P w = .ok (.value v) w ∧ VR ρ e.v v ∧ e.upd = [] ∧ e.news = [] ∧ e.mvs = []
theorem Za7 {ρ : RM} {k : IntKind} {n : Int} {v : Value} (h : VR ρ (.int k n) v) : v = .int k n := by simpa [VR] using h
theorem Za8 {ρ : RM} {b : Bool} {v : Value} (h : VR ρ (.bool b) v) : v = .bool b := by simpa [VR] using h
theorem Zeq {ρ : RM} {s : List UInt8} {v : Value} (h : VR ρ (.str s) v) : v = .string ⟨s.toArray⟩ := by simpa [VR] using h
theorem Zd1 (s : List UInt8) : (⟨s.toArray⟩ : ByteArray).size = s.length := by simp [ByteArray.size]
theorem Zi1 (s : List UInt8) : (⟨s.toArray⟩ : ByteArray).toList = s := by simp [ByteArray.toList_eq]
theorem Zfh {o : Oper} {x : Operand} (ho : o.op = .move x ∨ o.op = .assign x) {e : Eff} {y : Opd} (hx : cOpd x = some y) (he : evOp call n (.mv y) σ h = some e) (hσ : ∀ t, VR ρ (σ t) (a.tmps.getD t undef)) : Zbd P o a w ρ e := by
  simp only [evOp, Option.some.injEq] at he
  subst he
  refine ⟨a.eval x, ?_, ZN hσ hx, rfl, rfl, rfl⟩
  rcases ho with ho | ho <;> simp [execOp, ho]
theorem Zi2 {o : Oper} {c x y : Operand} (ho : o.op = .pick c x y) {e : Eff} {c' x' y' : Opd} (hc : cOpd c = some c') (hx : cOpd x = some x') (hy : cOpd y = some y') (he : evOp call n (.pick c' x' y') σ h = some e)
    (hσ : ∀ t, VR ρ (σ t) (a.tmps.getD t undef)) : Zbd P o a w ρ e := by
  have h1 := ZN hσ hc
  simp only [evOp] at he
  split at he
  · rename_i hb
    rw [hb] at h1
    have := Za8 h1
    simp only [Option.some.injEq] at he
    subst he
    exact ⟨a.eval x, by simp [execOp, ho, this, asBool], ZN hσ hx, rfl, rfl, rfl⟩
  · rename_i hb
    rw [hb] at h1
    have := Za8 h1
    simp only [Option.some.injEq] at he
    subst he
    exact ⟨a.eval y, by simp [execOp, ho, this, asBool], ZN hσ hy, rfl, rfl, rfl⟩
  · simp at he
theorem Zj0 {op : BinOp} {k : IntKind} {x y : Int} {v : EV} (hs : op ≠ .shl ∧ op ≠ .shr) (h : Ze7 op k x y = some v) (t : TypeId) (w : World) : ∃ u, (binOp op t (.int k x) (.int k y)).run P w = .ok u w ∧ VR ρ v u := by
  cases op <;> simp only [Ze7] at h <;> (try (simp at hs; done)) <;> (try (simp at h; done))
  case quo =>
    split at h
    · simp at h
    · rename_i hy
      simp only [Option.some.injEq] at h; subst h
      exact ⟨.int k (k.wrap (x.tdiv y)), by simp [binOp, Op.intDiv, hy], by simp [VR]⟩
  case rem =>
    split at h
    · simp at h
    · rename_i hy
      simp only [Option.some.injEq] at h; subst h
      exact ⟨.int k (x.tmod y), by simp [binOp, Op.intDiv, hy], by simp [VR]⟩
  case and | or | xor | andNot =>
    simp only [Zgp, Option.map_some, Option.some.injEq] at h
    subst h
    refine ⟨_, ?_, by simp only [VR]; rfl⟩
    simp only [binOp, ne_eq, not_true_eq_false, if_false, Op.intBits, Sem.run_pure]
  case add | sub | mul =>
    simp only [Option.some.injEq] at h; subst h
    refine ⟨_, ?_, by simp only [VR]; rfl⟩
    simp only [binOp, ne_eq, not_true_eq_false, if_false, Op.intArith, Sem.run_pure]
  all_goals
    simp only [Option.some.injEq] at h; subst h
    refine ⟨_, ?_, by simp only [VR]; rfl⟩
    simp only [binOp, ne_eq, not_true_eq_false, if_false, Op.intCmp, Sem.run_pure]
theorem Zer {op : BinOp} {k k' : IntKind} {x y : Int} {v : EV} (h : ZcQ op k x y = some v) (t : TypeId) (w : World) : ∃ u, (binOp op t (.int k x) (.int k' y)).run P w = .ok u w ∧ VR ρ v u := by
  unfold ZcQ at h
  split at h
  · simp at h
  · rename_i hy
    cases op <;> simp only at h <;> (try (simp at h; done)) <;> simp only [Option.some.injEq] at h <;> subst h <;> refine ⟨_, ?_, by simp only [VR]; rfl⟩ <;> simp only [binOp, Op.shift, hy, if_false, Sem.run_pure]
theorem Zfi : ∀ {l : List BT} {x y : List EV} {u v : List Value} {r : Bool}, Zbn l x y = some r → VRs ρ x u → VRs ρ y v → Zaf l u v = some r
  | [], [], [], u, v, r, h, hx, hy => by
    simp only [VRs] at hx hy; subst hx; subst hy
    simpa [Zbn, Zaf] using h
  | [], [], _ :: _, u, v, r, h, hx, hy => by simp [Zbn] at h
  | [], _ :: _, y, u, v, r, h, hx, hy => by cases y <;> simp [Zbn] at h
  | _ :: _, [], y, u, v, r, h, hx, hy => by cases y <;> simp [Zbn] at h
  | _ :: _, _ :: _, [], u, v, r, h, hx, hy => by simp [Zbn] at h
  | t :: l, a :: x, b :: y, u, v, r, h, hx, hy => by
    simp only [VRs] at hx hy
    obtain ⟨u1, ur, rfl, h1, h2⟩ := hx
    obtain ⟨v1, vr, rfl, h3, h4⟩ := hy
    simp only [Zbn] at h
    split at h
    · rename_i p q hp hq
      have hrest := Zfi hq h2 h4
      have hv : Zgx t u1 v1 = some p := by
        unfold Zml at hp
        split at hp
        · split at hp
          · rename_i hk
            subst hk
            rw [Za7 h1, Za7 h3]
            simpa [Zgx] using hp
          · simp at hp
        · rw [Za8 h1, Za8 h3]; simpa [Zgx] using hp
        · rw [Zeq h1, Zeq h3]; simpa [Zgx, Zi1] using hp
        · simp at hp
      simp only [Zaf, hv, hrest]
      exact h
    · simp at h
theorem Zes (k : IntKind) : ∀ {l : List BT} {x y : List Int}, x.length = l.length → y.length = l.length → l.all BT.isInt = true → Zaf l (x.map (Value.int k)) (y.map (Value.int k)) = some (x == y)
  | [], [], [], _, _, _ => rfl
  | [], _ :: _, _, h, _, _ => by simp at h
  | [], _, _ :: _, _, h, _ => by simp at h
  | _ :: _, [], _, h, _, _ => by simp at h
  | _ :: _, _, [], _, h, _ => by simp at h
  | t :: l, a :: x, b :: y, hx, hy, hl => by
    simp only [List.all_cons, Bool.and_eq_true] at hl
    have := Zes k (l := l) (x := x) (y := y) (by simpa using hx) (by simpa using hy) hl.2
    cases t <;> simp [BT.isInt] at hl
    simp only [List.map_cons, Zaf, Zgx, if_true, this]
    rfl
theorem ZlE {l : List BT} {x y : EV} {u v : Value} {r : Bool} (h : Zgq l x y = some r) (hx : VR ρ x u) (hy : VR ρ y v) :
    ∃ a b : List Value, u = .agg a.toArray ∧ v = .agg b.toArray ∧ Zaf l a b = some r := by
  have key : (if isAgg x && isAgg y then Zbn l (cells x) (cells y) else none) = some r → ∃ a b : List Value, u = .agg a.toArray ∧ v = .agg b.toArray ∧ Zaf l a b = some r := by
    intro h
    split at h
    · rename_i hc
      simp only [Bool.and_eq_true] at hc
      obtain ⟨a, rfl, la, ca, ga⟩ := Zen hx hc.1
      obtain ⟨b, rfl, lb, cb, gb⟩ := Zen hy hc.2
      refine ⟨a, b, rfl, rfl, Zfi h (Zgv (by rw [Zb0]; exact la) fun j e hj => ga j e (by rw [← Za5 hc.1]; exact hj)) (Zgv (by rw [Zb0]; exact lb) fun j e hj => gb j e (by rw [← Za5 hc.2]; exact hj))⟩
    · simp at h
  unfold Zgq at h
  split at h
  · rename_i k x k' y
    split at h
    · rename_i hc
      obtain ⟨rfl, h1, h2, h3⟩ := hc
      simp only [Option.some.injEq] at h
      subst h
      simp only [VR] at hx hy
      exact ⟨_, _, hx, hy, Zes k h1 h2 h3⟩
    · simp at h
  · exact key h
theorem Zj1 {t : TypeId} {l : List BT} (h : btT P t = some (.cells l)) : P.eqGuardType P.depth t = false ∧ eqT P 8 t = some l ∧ aggT P t = some true := by
  unfold btT at h
  unfold aggT
  cases hu : P.underlying t with
  | none => simp [hu] at h
  | some T =>
    rw [hu] at h
    cases T <;> simp at h <;> exact ⟨h.1, h.2, rfl⟩
theorem Zmo {t : TypeId} {l : List BT} {x y : EV} {u v : Value} {r : Bool} (hb : btT P t = some (.cells l)) (h : Zgq l x y = some r) (hx : VR ρ x u) (hy : VR ρ y v) (w : World) (op : BinOp) (X Y : Operand) :
    (eqGuard op t X Y u v).run P w = .ok () w ∧ (Op.equalIn 10000 t u v).run P w = .ok r w ∧ ∃ a b, u = .agg a ∧ v = .agg b := by
  obtain ⟨hg, he, ha⟩ := Zj1 hb
  obtain ⟨a, b, rfl, rfl, hv⟩ := ZlE h hx hy
  refine ⟨run_eqGuard_agg w op t X Y _ _ hg, ?_, _, _, rfl, rfl⟩
  simp only [eqT] at he
  split at he
  · rename_i l' hl'
    split at he
    · simp only [Option.some.injEq] at he
      subst he
      exact Zff (d := 9999) (rec_ := eqT P 7) (fun t l h => ⟨Zd0 h, Zmn 7 t l h 9999 (by omega)⟩) hl' ha w a b r hv
    · simp at he
  · simp at he
theorem Zig {t : TypeId} (h : btT P t = some .bool) : P.underlying t = some .bool := by
  unfold btT at h
  cases hu : P.underlying t with
  | none => simp [hu] at h
  | some T => rw [hu] at h; cases T <;> simp at h ⊢
theorem ZmL {t : TypeId} (h : btT P t = some .ptr) : ∃ e, P.underlying t = some (.pointer e) := by
  unfold btT at h
  cases hu : P.underlying t with
  | none => simp [hu] at h
  | some T => rw [hu] at h; cases T <;> simp at h ⊢
theorem Zj2 {t : TypeId} (h : btT P t = some .slice) : ∃ e, P.underlying t = some (.slice e) := by
  unfold btT at h
  cases hu : P.underlying t with
  | none => simp [hu] at h
  | some T => rw [hu] at h; cases T <;> simp at h ⊢
theorem Zgy {t : TypeId} {x y : EV} {u v : Value} {r : Bool} (hb : btT P t = some .ptr) (h : ZlA x y = some r) (hx : VR ρ x u) (hy : VR ρ y v) (w : World) (op : BinOp) (X Y : Operand) (d : Nat) :
    (eqGuard op t X Y u v).run P w = .ok () w ∧ (Op.equalIn (d + 1) t u v).run P w = .ok r w ∧ ∃ p q, u = .pointer p ∧ v = .pointer q := by
  obtain ⟨e, he⟩ := ZmL hb
  unfold ZlA at h
  split at h <;> simp at h <;> subst h <;> simp only [VR] at hx hy
  · subst hx; subst hy
    exact ⟨by cases op <;> simp [eqGuard], by simp [Op.equalIn, run_underlying he], _, _, rfl, rfl⟩
  · obtain ⟨q, rfl, _⟩ := hy
    subst hx
    exact ⟨by cases op <;> simp [eqGuard], by simp [Op.equalIn, run_underlying he], _, _, rfl, rfl⟩
  · obtain ⟨q, rfl, _⟩ := hx
    subst hy
    exact ⟨by cases op <;> simp [eqGuard], by simp [Op.equalIn, run_underlying he], _, _, rfl, rfl⟩
  · obtain ⟨q, q', rfl, _⟩ := hy
    subst hx
    exact ⟨by cases op <;> simp [eqGuard], by simp [Op.equalIn, run_underlying he], _, _, rfl, rfl⟩
  · obtain ⟨q, q', rfl, _⟩ := hx
    subst hy
    exact ⟨by cases op <;> simp [eqGuard], by simp [Op.equalIn, run_underlying he], _, _, rfl, rfl⟩
  · obtain ⟨q, rfl, _⟩ := hy
    subst hx
    exact ⟨by cases op <;> simp [eqGuard], by simp [Op.equalIn, run_underlying he], _, _, rfl, rfl⟩
  · obtain ⟨q, rfl, _⟩ := hx
    subst hy
    exact ⟨by cases op <;> simp [eqGuard], by simp [Op.equalIn, run_underlying he], _, _, rfl, rfl⟩
theorem Zih {t : TypeId} {x y : EV} {u v : Value} {r : Bool} (hb : btT P t = some .slice) (h : eqSl x y = some r) (hx : VR ρ x u) (hy : VR ρ y v) (w : World) (op : BinOp) (X Y : Operand) (d : Nat) :
    (eqGuard op t X Y u v).run P w = .ok () w ∧ (Op.equalIn (d + 1) t u v).run P w = .ok r w ∧ ∃ p m c q n d, u = .slice p m c ∧ v = .slice q n d := by
  obtain ⟨e, he⟩ := Zj2 hb
  unfold eqSl at h
  split at h <;> simp at h <;> subst h <;> simp only [VR] at hx hy
  · subst hx; subst hy
    exact ⟨by cases op <;> simp [eqGuard], by simp [Op.equalIn, run_underlying he], _, _, _, _, _, _, rfl, rfl⟩
  · obtain ⟨q, c, rfl, _⟩ := hy
    subst hx
    exact ⟨by cases op <;> simp [eqGuard], by simp [Op.equalIn, run_underlying he], _, _, _, _, _, _, rfl, rfl⟩
  · obtain ⟨q, c, rfl, _⟩ := hx
    subst hy
    exact ⟨by cases op <;> simp [eqGuard], by simp [Op.equalIn, run_underlying he], _, _, _, _, _, _, rfl, rfl⟩
theorem Za0 {t : TypeId} {u v : Value} {r : Bool} (he : (Op.equalIn 10000 t u v).run P w = .ok r w) (hk : (∃ a b, u = .agg a ∧ v = .agg b) ∨ (∃ p q, u = .pointer p ∧ v = .pointer q) ∨ (∃ p m c q n d, u = .slice p m c ∧ v = .slice q n d)) :
    (binOp .eql t u v).run P w = .ok (.bool r) w ∧ (binOp .neq t u v).run P w = .ok (.bool (!r)) w := by
  have h1 : (Op.equal t u v).run P w = .ok r w := he
  rcases hk with ⟨a, b, rfl, rfl⟩ | ⟨p, q, rfl, rfl⟩ | ⟨p, m, c, q, n, d, rfl, rfl⟩ <;> simp only [binOp] <;> simp [h1]
theorem Za9 {ρ : RM} (b : Bool) : VR ρ (.bool b) (.bool b) := by simp [VR]
theorem ZcJ {ρ : RM} (k : IntKind) (n : Int) : VR ρ (.int k n) (.int k n) := by simp [VR]
theorem Zj3 {o : Oper} {op : BinOp} {t t' : TypeId} {x y : Operand} (ho : o.op = .binOp op t x y t') {e : Eff} {ty : BT} {x' y' : Opd} (hb : btT P t = some ty) (hx : cOpd x = some x') (hy : cOpd y = some y') (he : evOp call n (.bin op ty x' y') σ h = some e)
    (hσ : ∀ t, VR ρ (σ t) (a.tmps.getD t undef)) : Zbd P o a w ρ e := by
  have h1 := ZN hσ hx
  have h2 := ZN hσ hy
  simp only [evOp, Option.map_eq_some_iff] at he
  obtain ⟨v, hv, rfl⟩ := he
  suffices hs : ∃ u, (eqGuard op t x y (a.eval x) (a.eval y)).run P w = .ok () w ∧ (binOp op t (a.eval x) (a.eval y)).run P w = .ok u w ∧ VR ρ v u by
    obtain ⟨u, p, q, r⟩ := hs
    exact ⟨u, by simp [execOp, ho, p, q], r, rfl, rfl, rfl⟩
  generalize x'.ev σ = X at *
  generalize y'.ev σ = Y at *
  unfold Zed at hv
  split at hv
  · rename_i k m k' m'
    rw [Za7 h1, Za7 h2]
    have hg : (eqGuard op t x y (Value.int k m) (Value.int k' m')).run P w = .ok () w := by cases op <;> simp [eqGuard]
    split at hv
    · obtain ⟨u, p, q⟩ := Zer (P := P) (ρ := ρ) hv t w; exact ⟨u, hg, p, q⟩
    · obtain ⟨u, p, q⟩ := Zer (P := P) (ρ := ρ) hv t w; exact ⟨u, hg, p, q⟩
    · rename_i hne1 hne2
      split at hv
      · rename_i hk
        subst hk
        obtain ⟨u, p, q⟩ := Zj0 (P := P) (ρ := ρ) ⟨hne1, hne2⟩ hv t w
        exact ⟨u, hg, p, q⟩
      · simp at hv
  · rename_i s s'
    rw [Zeq h1, Zeq h2]
    have hg : (eqGuard op t x y (Value.string ⟨s.toArray⟩) (Value.string ⟨s'.toArray⟩)).run P w = .ok () w := by cases op <;> simp [eqGuard]
    split at hv
    · split at hv
      · rename_i hl
        simp only [Option.some.injEq] at hv; subst hv
        refine ⟨.string ⟨(s ++ s').toArray⟩, hg, ?_, by simp [VR]⟩
        have hle : ¬ ((s.length + s'.length : Nat) : Int) > IntKind.i64.max := by
          have : IntKind.i64.max = 9223372036854775807 := by decide
          rw [this]; omega
        simp only [binOp, Op.stringOp, Zd1, hle, if_false, Sem.run_pure]
        congr 2
      · simp at hv
    · simp only [Option.some.injEq] at hv; subst hv
      exact ⟨_, hg, by simp [binOp, Op.stringOp], Za9 _⟩
    · simp only [Option.some.injEq] at hv; subst hv
      exact ⟨.bool (!(s == s')), hg, by simp [binOp, Op.stringOp], Za9 _⟩
    · simp at hv
  · rename_i p q
    rw [Za8 h1, Za8 h2]
    have hg : (eqGuard op t x y (Value.bool p) (Value.bool q)).run P w = .ok () w := by cases op <;> simp [eqGuard]
    split at hv
    · simp only [Option.some.injEq] at hv; subst hv
      have h3 : (Op.equal t (.bool p) (.bool q)).run P w = .ok (p == q) w := run_equal_bool w t p q (Zig hb)
      exact ⟨.bool (p == q), hg, by simp only [binOp]; simp [h3], Za9 _⟩
    · simp only [Option.some.injEq] at hv; subst hv
      have h3 : (Op.equal t (.bool p) (.bool q)).run P w = .ok (p == q) w := run_equal_bool w t p q (Zig hb)
      exact ⟨.bool (!(p == q)), hg, by simp only [binOp]; simp [h3], Za9 _⟩
    · simp at hv
  · split at hv
    · simp only [Option.map_eq_some_iff] at hv
      obtain ⟨r, hr, rfl⟩ := hv
      obtain ⟨p, q, a', b', ha, hb'⟩ := Zmo hb hr h1 h2 w .eql x y
      exact ⟨_, p, (Za0 q (.inl ⟨a', b', ha, hb'⟩)).1, Za9 _⟩
    · simp only [Option.map_eq_some_iff] at hv
      obtain ⟨r, hr, rfl⟩ := hv
      obtain ⟨p, q, a', b', ha, hb'⟩ := Zmo hb hr h1 h2 w .neq x y
      exact ⟨_, p, (Za0 q (.inl ⟨a', b', ha, hb'⟩)).2, Za9 _⟩
    · simp only [Option.map_eq_some_iff] at hv
      obtain ⟨r, hr, rfl⟩ := hv
      obtain ⟨p, q, a', b', ha, hb'⟩ := Zgy hb hr h1 h2 w .eql x y 9999
      exact ⟨_, p, (Za0 q (.inr (.inl ⟨a', b', ha, hb'⟩))).1, Za9 _⟩
    · simp only [Option.map_eq_some_iff] at hv
      obtain ⟨r, hr, rfl⟩ := hv
      obtain ⟨p, q, a', b', ha, hb'⟩ := Zgy hb hr h1 h2 w .neq x y 9999
      exact ⟨_, p, (Za0 q (.inr (.inl ⟨a', b', ha, hb'⟩))).2, Za9 _⟩
    · simp only [Option.map_eq_some_iff] at hv
      obtain ⟨r, hr, rfl⟩ := hv
      obtain ⟨p, q, hk⟩ := Zih hb hr h1 h2 w .eql x y 9999
      exact ⟨_, p, (Za0 q (.inr (.inr hk))).1, Za9 _⟩
    · simp only [Option.map_eq_some_iff] at hv
      obtain ⟨r, hr, rfl⟩ := hv
      obtain ⟨p, q, hk⟩ := Zih hb hr h1 h2 w .neq x y 9999
      exact ⟨_, p, (Za0 q (.inr (.inr hk))).2, Za9 _⟩
    · simp at hv
theorem ZlF {o : Oper} {op : UnOp} {t : TypeId} {x : Operand} (ho : o.op = .unOp op t x) {e : Eff} {x' : Opd} (hx : cOpd x = some x') (he : evOp call n (.un op x') σ h = some e)
    (hσ : ∀ t, VR ρ (σ t) (a.tmps.getD t undef)) : Zbd P o a w ρ e := by
  have h1 := ZN hσ hx
  simp only [evOp, Option.map_eq_some_iff] at he
  obtain ⟨v, hv, rfl⟩ := he
  generalize x'.ev σ = X at *
  unfold unEv at hv
  split at hv
  · rename_i k m
    simp only [Option.some.injEq] at hv; subst hv
    exact ⟨.int k (k.wrap (0 - m)), by simp [execOp, ho, Za7 h1, Op.unary, Op.intArith], by simp [VR], rfl, rfl, rfl⟩
  · rename_i k m
    simp only [Zgp, Option.map_some, Option.some.injEq] at hv; subst hv
    refine ⟨_, ?_, by simp only [VR]; rfl, rfl, rfl, rfl⟩
    simp only [execOp, ho, Za7 h1, Op.unary, Op.intBits, Sem.run_bind, Sem.run_pure, Result.andThen_ok]
  · rename_i b
    simp only [Option.some.injEq] at hv; subst hv
    exact ⟨_, by simp [execOp, ho, Za8 h1, Op.unary], Za9 _, rfl, rfl, rfl⟩
  · simp at hv
theorem Zi3 {o : Oper} {s d : TypeId} {x : Operand} {k ks : IntKind} (ho : o.op = .convert s d x) (hd : P.underlying d = some (.int k)) (hs : P.underlying s = some (.int ks)) {e : Eff} {x' : Opd} (hx : cOpd x = some x') (he : evOp call n (.conv k x') σ h = some e)
    (hσ : ∀ t, VR ρ (σ t) (a.tmps.getD t undef)) : Zbd P o a w ρ e := by
  have h1 := ZN hσ hx
  simp only [evOp] at he
  split at he
  · rename_i k' m hm
    rw [hm] at h1
    simp only [Option.some.injEq] at he; subst he
    exact ⟨_, by simp [execOp, ho, Za7 h1, convert, run_underlying hd, run_underlying hs, Conv.intToInt], ZcJ _ _, rfl, rfl, rfl⟩
  · simp at he
theorem ZfN {o : Oper} {x : Operand} {i : Nat} (ho : o.op = .extract x i) {e : Eff} {x' : Opd} (hx : cOpd x = some x') (he : evOp call n (.extract x' i) σ h = some e)
    (hσ : ∀ t, VR ρ (σ t) (a.tmps.getD t undef)) : Zbd P o a w ρ e := by
  have h1 := ZN hσ hx
  simp only [evOp] at he
  split at he
  · rename_i l hl
    rw [hl] at h1
    simp only [Option.map_eq_some_iff] at he
    obtain ⟨v, hv, rfl⟩ := he
    simp only [VR] at h1
    obtain ⟨cs, hc, hr⟩ := h1
    obtain ⟨u, hu, hvr⟩ := Zek hr i v hv
    exact ⟨u, by simp [execOp, ho, hc, Instr.extract, hu], hvr, rfl, rfl, rfl⟩
  · simp at he
theorem Zht {o : Oper} {x : Operand} (ho : o.op = .nilCheck x) {e : Eff} {x' : Opd} (hx : cOpd x = some x') (he : evOp call n (.nilck x') σ h = some e)
    (hσ : ∀ t, VR ρ (σ t) (a.tmps.getD t undef)) : Zbd P o a w ρ e := by
  have h1 := ZN hσ hx
  simp only [evOp] at he
  split at he
  · rename_i r off hl
    rw [hl] at h1
    simp only [Option.some.injEq] at he; subst he
    refine ⟨a.eval x, ?_, h1, rfl, rfl, rfl⟩
    simp only [VR] at h1
    obtain ⟨p, hp, _⟩ := h1
    simp [execOp, ho, hp]
  · rename_i c off hl
    rw [hl] at h1
    simp only [Option.some.injEq] at he; subst he
    refine ⟨a.eval x, ?_, h1, rfl, rfl, rfl⟩
    simp only [VR] at h1
    obtain ⟨b, base, hp, _⟩ := h1
    simp [execOp, ho, hp]
  · simp at he
theorem Zet {o : Oper} {x : Operand} {t : TypeId} {ats : Array TypeId} {k : LenOf} (ho : o.op = .call { callee := .builtin .len, args := #[x], argTypes := ats }) (ht : ats[0]? = some t)
    (hk : match k with | .str => P.underlying t = some .string | .slice => ∃ e, P.underlying t = some (.slice e) | .const m => ∃ e, P.underlying t = some (.array m e))
    {e : Eff} {x' : Opd} (hx : cOpd x = some x') (he : evOp call n (.len k x') σ h = some e) (hσ : ∀ t, VR ρ (σ t) (a.tmps.getD t undef)) : Zbd P o a w ρ e := by
  have h1 := ZN hσ hx
  have key : ∀ m : Nat, (Builtin.len_ ats o.type #[a.eval x]).run P w = .ok (goInt m) w → (execOp a.eval o).run P w = .ok (.value (.int .i64 m)) w := by
    intro m hm
    simp [execOp, ho, resolve, invoke, builtin, hm, goInt]
  simp only [evOp] at he
  split at he
  · rename_i m
    simp only [Option.some.injEq] at he; subst he
    obtain ⟨e', hu⟩ := hk
    refine ⟨_, key m ?_, ZcJ _ _, rfl, rfl, rfl⟩
    simp [Builtin.len_, ht, run_underlying hu]
  · rename_i s hs
    rw [hs] at h1
    simp only [Option.some.injEq] at he; subst he
    refine ⟨_, key s.length ?_, ZcJ _ _, rfl, rfl, rfl⟩
    simp [Builtin.len_, ht, run_underlying hk, Zeq h1, Zd1]
  · rename_i r off m z hs
    rw [hs] at h1
    simp only [Option.some.injEq] at he; subst he
    obtain ⟨e', hu⟩ := hk
    simp only [VR] at h1
    obtain ⟨p, c, hp, _⟩ := h1
    refine ⟨_, key m ?_, ZcJ _ _, rfl, rfl, rfl⟩
    simp [Builtin.len_, ht, run_underlying hu, hp]
  · rename_i hs
    rw [hs] at h1
    simp only [Option.some.injEq] at he; subst he
    obtain ⟨e', hu⟩ := hk
    simp only [VR] at h1
    refine ⟨_, key 0 ?_, ZcJ _ _, rfl, rfl, rfl⟩
    simp [Builtin.len_, ht, run_underlying hu, h1]
  · rename_i c m z hs
    rw [hs] at h1
    simp only [Option.some.injEq] at he; subst he
    obtain ⟨e', hu⟩ := hk
    simp only [VR] at h1
    refine ⟨_, key m ?_, ZcJ _ _, rfl, rfl, rfl⟩
    rcases h1 with ⟨⟨q, h1⟩, rfl⟩ | ⟨b, base, cap, h1, _⟩
    · simp [Builtin.len_, ht, run_underlying hu, h1]
    · simp [Builtin.len_, ht, run_underlying hu, h1]
  · simp at he
theorem Znu {m : Bool} {x y v : EV} {u u' : Value} (h : mx2 m x y = some v) (hx : VR ρ x u) (hy : VR ρ y u') : ∃ c, ((if m then Builtin.max2 u u' else Builtin.min2 u u') : Sem Value).run P w = .ok c w ∧ VR ρ v c := by
  unfold mx2 at h
  split at h
  · simp only [Option.some.injEq] at h; subst h
    rename_i k x k' y
    rw [Za7 hx, Za7 hy]
    cases m
    · exact ⟨.int k (if y < x then y else x), by simp [Builtin.min2], by simp [VR]⟩
    · exact ⟨.int k (if y > x then y else x), by simp [Builtin.max2], by simp [VR]⟩
  · simp at h
theorem Zmp {m : Bool} : ∀ {l : List EV} {x v : EV} {us : List Value} {u : Value}, mxL m x l = some v → VR ρ x u → VRs ρ l us → ∃ c, ((if m then us.foldlM Builtin.max2 u else us.foldlM Builtin.min2 u) : Sem Value).run P w = .ok c w ∧ VR ρ v c
  | [], x, v, us, u, h, hx, hl => by
    simp only [VRs] at hl; subst hl
    simp only [mxL, Option.some.injEq] at h; subst h
    exact ⟨u, by cases m <;> simp, hx⟩
  | b :: l, x, v, us, u, h, hx, hl => by
    simp only [VRs] at hl
    obtain ⟨u', r, rfl, h1, h2⟩ := hl
    simp only [mxL, Option.bind_eq_some_iff] at h
    obtain ⟨c, hc, hr⟩ := h
    obtain ⟨c', p, q⟩ := Znu (P := P) (w := w) hc hx h1
    obtain ⟨c'', p', q'⟩ := Zmp hr q h2
    refine ⟨c'', ?_, q'⟩
    cases m <;> simp only [Bool.false_eq_true, if_false, if_true] at p p' ⊢ <;> simp [List.foldlM_cons, p, p']
theorem Zii {o : Oper} {xs : List Operand} {ats : Array TypeId} {m : Bool} (ho : o.op = .call { callee := .builtin (if m then .max else .min), args := xs.toArray, argTypes := ats })
    {e : Eff} {xs' : List Opd} (hx : ZaZ xs = some xs') (he : evOp call n (.mx m xs') σ h = some e) (hσ : ∀ t, VR ρ (σ t) (a.tmps.getD t undef)) : Zbd P o a w ρ e := by
  have h1 := Za6 hσ hx
  simp only [evOp] at he
  split at he
  · simp at he
  · rename_i x r hl
    rw [hl] at h1
    simp only [Option.map_eq_some_iff] at he
    obtain ⟨v, hv, rfl⟩ := he
    simp only [VRs] at h1
    obtain ⟨u, us, hu, p, q⟩ := h1
    obtain ⟨c, hc, hr⟩ := Zmp (P := P) (w := w) hv p q
    refine ⟨c, ?_, hr, rfl, rfl, rfl⟩
    have hu' : (xs.toArray.map a.eval).toList = u :: us := by simpa using hu
    have hua : (xs.toArray.map a.eval) = (u :: us).toArray := by rw [← hu']
    cases m
    · simp only [Bool.false_eq_true, if_false] at hc ho
      simp only [execOp, ho, resolve, Sem.run_bind, Sem.run_pure, Result.andThen_ok, invoke, builtin, Builtin.min_, hua, hc]
    · simp only [if_true] at hc ho
      simp only [execOp, ho, resolve, Sem.run_bind, Sem.run_pure, Result.andThen_ok, invoke, builtin, Builtin.max_, hua, hc]
theorem Zi4 {o : Oper} {f : FuncId} {x y : Array Operand} (ho : o.op = .makeFunc (.func f) x y) {e : Eff} {x' y' : List Opd} (hx : ZaZ x.toList = some x') (hy : ZaZ y.toList = some y') (he : evOp call n (.mkfn f x' y') σ h = some e) (hlt : f < yld)
    (hσ : ∀ t, VR ρ (σ t) (a.tmps.getD t undef)) : Zbd P o a w ρ e := by
  simp only [evOp, Option.some.injEq] at he; subst he
  refine ⟨.func (.func f) (x.map a.eval) (y.map a.eval), by simp [execOp, ho, Instr.makeFunc], ?_, rfl, rfl, rfl⟩
  simp only [VR]
  exact ⟨(x.map a.eval).toList, (y.map a.eval).toList, by rw [Array.toArray_toList, Array.toArray_toList, ZcY hlt], by simpa using Za6 hσ hx, by simpa using Za6 hσ hy⟩
end
end Go.Sx
