/-
  '==' on structs and arrays of numbers, bools and strings, as the model runs it. Conditions: none.
-/
import Derived.Test.YtlbfafbhflblcaaSxD
import Derived.ChangeKeysEq
namespace Go.Sx
open Go
set_option linter.unusedVariables false
def Zgx : BT → Value → Value → Option Bool
  | .int _, .int k a, .int k' b => if k = k' then some (a == b) else none
  | .bool, .bool a, .bool b => some (a == b)
  | .str, .string a, .string b => some (a.toList == b.toList)
  | _, _, _ => none
def Zaf : List BT → List Value → List Value → Option Bool
  | [], [], [] => some true
  | t :: l, a :: x, b :: y => match Zgx t a b, Zaf l x y with
    | some p, some q => some (p && q)
    | _, _ => none
  | _, _, _ => none
theorem ZbE : ∀ {l : List BT} {a b : List Value} {r : Bool}, Zaf l a b = some r → a.length = l.length ∧ b.length = l.length
  | [], [], [], r, _ => ⟨rfl, rfl⟩
  | [], [], _ :: _, r, h => by simp [Zaf] at h
  | [], _ :: _, b, r, h => by cases b <;> simp [Zaf] at h
  | _ :: _, [], b, r, h => by cases b <;> simp [Zaf] at h
  | _ :: _, _ :: _, [], r, h => by simp [Zaf] at h
  | t :: l, a :: x, b :: y, r, h => by
    simp only [Zaf] at h
    split at h
    · rename_i p q h1 h2
      obtain ⟨e1, e2⟩ := ZbE h2
      simp [e1, e2]
    · simp at h
theorem ZbF : ∀ (s : List BT) (a b : List Value) {s' : List BT} {x y : List Value} {r : Bool}, a.length = s.length → b.length = s.length → Zaf (s ++ s') (a ++ x) (b ++ y) = some r → ∃ p q, Zaf s a b = some p ∧ Zaf s' x y = some q ∧ r = (p && q)
  | [], [], [], s', x, y, r, _, _, h => ⟨true, r, rfl, h, by simp⟩
  | [], _, _ :: _, s', x, y, r, _, hl, h => by simp at hl
  | [], _ :: _, _, s', x, y, r, hl, _, h => by simp at hl
  | _ :: _, [], _, s', x, y, r, hl, _, h => by simp at hl
  | _ :: _, _, [], s', x, y, r, _, hl, h => by simp at hl
  | t :: s, u :: a, v :: b, s', x, y, r, hl, hl', h => by
    simp only [List.cons_append, Zaf] at h
    split at h
    · rename_i p q h1 h2
      obtain ⟨p', q', h3, h4, rfl⟩ := ZbF s a b (by simpa using hl) (by simpa using hl') h2
      simp only [Option.some.injEq] at h
      subst h
      exact ⟨p && p', q', by simp [Zaf, h1, h3], h4, by simp [Bool.and_assoc]⟩
    · simp at h
theorem Zb1 {P : Program} (w : World) {t : TypeId} {i : TypeInfo} {d : TypeDesc} (hu : P.underlying t = some d) (hd : (match d with | .struct _ | .array _ _ => true | _ => false) = true) (hi : P.info? t = some i) (cs : Array Value) (off : Nat) :
    (part t cs off).run P w = .ok (.agg (cs.extract off (off + i.size))) w := by
  have hagg : (Go.isAgg t).run P w = .ok true w := by
    unfold Go.isAgg
    rw [Sem.run_bind, run_underlying hu w]
    cases d <;> simp_all
  simp [part, Sem.run_bind, hagg, sizeOf, typeInfo, hi]
theorem Zb2 {P : Program} (w : World) {t : TypeId} {d : TypeDesc} (hu : P.underlying t = some d) (hd : (match d with | .struct _ | .array _ _ => true | _ => false) = false) (cs : Array Value) (off : Nat) {v : Value} (hv : cs[off]? = some v) :
    (part t cs off).run P w = .ok v w := by
  have hagg : (Go.isAgg t).run P w = .ok false w := by
    unfold Go.isAgg
    rw [Sem.run_bind, run_underlying hu w]
    cases d <;> simp_all
  simp [part, Sem.run_bind, hagg, hv]
def EqOk (P : Program) (d : Nat) (t : TypeId) (s : List BT) : Prop :=
  ∀ (w : World) (xs ys : Array Value) (off : Nat) (a b : List Value) (r : Bool), a.length = s.length → b.length = s.length → (∀ j, j < s.length → xs[off + j]? = a[j]?) → (∀ j, j < s.length → ys[off + j]? = b[j]?) → Zaf s a b = some r →
    ∃ u v, (part t xs off).run P w = .ok u w ∧ (part t ys off).run P w = .ok v w ∧ (Op.equalIn d t u v).run P w = .ok r w
theorem Zfd {xs : Array Value} {off n : Nat} {a : List Value} (hl : a.length = n) (h : ∀ j, j < n → xs[off + j]? = a[j]?) : xs.extract off (off + n) = a.toArray := by
  apply Array.ext'
  refine List.ext_getElem? fun j => ?_
  by_cases hj : j < n
  · have := h j hj
    have hlt : off + j < xs.size := by
      rw [List.getElem?_eq_getElem (by omega)] at this
      exact (Array.getElem?_eq_some_iff.1 this).1
    simp only [Array.getElem?_toList]
    rw [← this, Array.getElem?_extract]
    simp
    omega
  · have h1 : a[j]? = none := List.getElem?_eq_none (by omega)
    simp only [Array.getElem?_toList, h1]
    rw [Array.getElem?_extract]
    simp
    intro
    omega
theorem Zfe {P : Program} {d : Nat} {e : TypeId} {s : List BT} (he : EqOk P d e s) (xs ys : Array Value) : ∀ (m i0 : Nat) (w : World) (a b : List Value) (r : Bool), a.length = m * s.length → b.length = m * s.length →
    (∀ j, j < m * s.length → xs[i0 * s.length + j]? = a[j]?) → (∀ j, j < m * s.length → ys[i0 * s.length + j]? = b[j]?) → Zaf (List.replicate m s).flatten a b = some r → (Op.eqItems d e s.length xs ys (List.range' i0 m)).run P w = .ok r w
  | 0, i0, w, a, b, r, ha, hb, hx, hy, h => by
    simp at ha hb
    subst ha; subst hb
    simp [Zaf] at h
    subst h
    simp [Op.eqItems]
  | m + 1, i0, w, a, b, r, ha, hb, hx, hy, h => by
    have hm : (m + 1) * s.length = s.length + m * s.length := by rw [Nat.add_mul]; omega
    have ea : a = a.take s.length ++ a.drop s.length := (List.take_append_drop _ a).symm
    have eb : b = b.take s.length ++ b.drop s.length := (List.take_append_drop _ b).symm
    rw [ea, eb, List.replicate_succ, List.flatten_cons] at h
    obtain ⟨p, q, h1, h2, rfl⟩ := ZbF _ _ _ (by simp; omega) (by simp; omega) h
    obtain ⟨u, v, p1, p2, p3⟩ := he w xs ys (i0 * s.length) (a.take s.length) (b.take s.length) p (by simp; omega) (by simp; omega) (fun j hj => by rw [hx j (by omega), List.getElem?_take_of_lt hj]) (fun j hj => by rw [hy j (by omega), List.getElem?_take_of_lt hj]) h1
    have hrest := Zfe he xs ys m (i0 + 1) w (a.drop s.length) (b.drop s.length) q (by simp; omega) (by simp; omega)
      (fun j hj => by rw [List.getElem?_drop, ← hx (s.length + j) (by omega)]; congr 1; rw [Nat.add_mul]; omega)
      (fun j hj => by rw [List.getElem?_drop, ← hy (s.length + j) (by omega)]; congr 1; rw [Nat.add_mul]; omega) h2
    simp only [List.range'_succ, Op.eqItems, Sem.run_bind, p1, p2, p3, Result.andThen_ok]
    cases p
    · simp
    · simpa using hrest
theorem Zep {P : Program} {d : Nat} {rec_ : TypeId → Option (List BT)} (he : ∀ t l, rec_ t = some l → EqOk P d t l) (xs ys : Array Value) : ∀ (fs : List Field) (off : Nat) (l : List BT) (w : World) (a b : List Value) (r : Bool), eqGo rec_ off fs = some l →
    a.length = l.length → b.length = l.length → (∀ j, j < l.length → xs[off + j]? = a[j]?) → (∀ j, j < l.length → ys[off + j]? = b[j]?) → Zaf l a b = some r → (Op.eqFields d xs ys fs).run P w = .ok r w
  | [], off, l, w, a, b, r, hg, ha, hb, hx, hy, h => by
    simp [eqGo] at hg
    subst hg
    simp at ha hb
    subst ha; subst hb
    simp [Zaf] at h
    subst h
    simp [Op.eqFields]
  | f :: fs, off, l, w, a, b, r, hg, ha, hb, hx, hy, h => by
    simp only [eqGo] at hg
    split at hg
    · rename_i x hxf
      split at hg
      · rename_i hc
        simp only [Bool.and_eq_true, decide_eq_true_eq, bne_iff_ne, ne_eq] at hc
        obtain ⟨hoff, hname⟩ := hc
        simp only [Option.map_eq_some_iff] at hg
        obtain ⟨l', hl', rfl⟩ := hg
        simp only [List.length_append] at ha hb hx hy
        have ea : a = a.take x.length ++ a.drop x.length := (List.take_append_drop _ a).symm
        have eb : b = b.take x.length ++ b.drop x.length := (List.take_append_drop _ b).symm
        rw [ea, eb] at h
        obtain ⟨p, q, h1, h2, rfl⟩ := ZbF _ _ _ (by simp; omega) (by simp; omega) h
        obtain ⟨u, v, p1, p2, p3⟩ := he _ _ hxf w xs ys off (a.take x.length) (b.take x.length) p (by simp; omega) (by simp; omega) (fun j hj => by rw [hx j (by omega), List.getElem?_take_of_lt hj]) (fun j hj => by rw [hy j (by omega), List.getElem?_take_of_lt hj]) h1
        have hrest := Zep he xs ys fs (off + x.length) l' w (a.drop x.length) (b.drop x.length) q hl' (by simp; omega) (by simp; omega)
          (fun j hj => by rw [List.getElem?_drop, ← hx (x.length + j) (by omega)]; congr 1; omega)
          (fun j hj => by rw [List.getElem?_drop, ← hy (x.length + j) (by omega)]; congr 1; omega) h2
        subst hoff
        simp only [Op.eqFields, ne_eq, hname, not_false_eq_true, if_true, Sem.run_bind, p1, p2, p3, Result.andThen_ok]
        cases p
        · simp
        · simpa using hrest
      · simp at hg
    · simp at hg
theorem Zi0 {t : BT} {a b : List Value} {r : Bool} (h : Zaf [t] a b = some r) : ∃ x y, a = [x] ∧ b = [y] ∧ Zgx t x y = some r := by
  obtain ⟨ha, hb⟩ := ZbE h
  match a, b, ha, hb with
  | [x], [y], _, _ =>
    simp only [Zaf] at h
    split at h
    · rename_i p q h1 h2
      simp at h2 h
      subst h2; subst h
      exact ⟨x, y, rfl, rfl, by simpa using h1⟩
    · simp at h
theorem Zff {P : Program} {d : Nat} {rec_ : TypeId → Option (List BT)} (he : ∀ t l, rec_ t = some l → ZP P t = some l.length ∧ EqOk P d t l) {t : TypeId} {l : List BT} (h : Zho P rec_ t = some l) (hagg : aggT P t = some true)
    (w : World) (a b : List Value) (r : Bool) (hr : Zaf l a b = some r) : (Op.equalIn (d + 1) t (.agg a.toArray) (.agg b.toArray)).run P w = .ok r w := by
  obtain ⟨ha, hb⟩ := ZbE hr
  unfold Zho at h
  unfold aggT at hagg
  cases hu : P.underlying t with
  | none => simp [hu] at h
  | some D =>
    rw [hu] at h hagg
    cases D <;> simp at hagg <;> simp only at h
    case struct fs =>
      split at h
      · simp at h
      · rename_i hst
        have hfs : P.fieldsOf t = fs := by simp [Program.fieldsOf, hu]
        rw [run_equalIn_struct w d t _ _ (by rw [hfs]; exact hu) (by simpa using hst), hfs]
        exact Zep (fun t l h => (he t l h).2) _ _ fs.toList 0 l w a b r h ha hb (fun j _ => by simp) (fun j _ => by simp) hr
    case array n e =>
      simp only [Option.map_eq_some_iff] at h
      obtain ⟨x, hx, rfl⟩ := h
      obtain ⟨hsz, heq⟩ := he e x hx
      cases hi : P.info? e with
      | none => simp [ZP, hi] at hsz
      | some i =>
        have hcs : P.cellsOf e = x.length := by simpa [ZP, hi, Program.cellsOf] using hsz
        rw [run_equalIn_array w d _ _ hu hi, hcs, List.range_eq_range']
        have hlen : (List.replicate n x).flatten.length = n * x.length := by simp
        rw [hlen] at ha hb
        exact Zfe heq _ _ n 0 w a b r ha hb (fun j _ => by simp) (fun j _ => by simp) hr
theorem Zd0 {P : Program} {d : Nat} {t : TypeId} {l : List BT} (h : eqT P d t = some l) : ZP P t = some l.length := by
  cases d with
  | zero => simp [eqT] at h
  | succ d =>
    simp only [eqT] at h
    split at h
    · split at h
      · simp only [Option.some.injEq] at h; subst h; assumption
      · simp at h
    · simp at h
theorem Zmn {P : Program} : ∀ (d : Nat) (t : TypeId) (l : List BT), eqT P d t = some l → ∀ D, d ≤ D → EqOk P D t l
  | 0, t, l, h, D, hD => by simp [eqT] at h
  | d + 1, t, l, h, D, hD => by
    obtain ⟨D, rfl⟩ : ∃ D', D = D' + 1 := ⟨D - 1, by omega⟩
    have hsz := Zd0 h
    simp only [eqT] at h
    split at h
    · rename_i l' hl'
      split at h
      · simp only [Option.some.injEq] at h
        subst h
        have hrec : ∀ t l, eqT P d t = some l → ZP P t = some l.length ∧ EqOk P D t l := fun t l h => ⟨Zd0 h, Zmn d t l h D (by omega)⟩
        intro w xs ys off a b r ha hb hx hy hr
        cases hi : P.info? t with
        | none => simp [ZP, hi] at hsz
        | some i =>
          have hisz : i.size = l'.length := by simpa [ZP, hi] using hsz
          cases hu : P.underlying t with
          | none => simp [Zho, hu] at hl'
          | some T =>
            by_cases hagg : aggT P t = some true
            · have hT : (match T with | .struct _ | .array _ _ => true | _ => false) = true := by
                unfold aggT at hagg; rw [hu] at hagg; cases T <;> simp at hagg ⊢
              refine ⟨_, _, Zb1 w hu hT hi xs off, Zb1 w hu hT hi ys off, ?_⟩
              rw [hisz, Zfd ha hx, Zfd hb hy]
              exact Zff hrec hl' hagg w a b r hr
            · have hT : (match T with | .struct _ | .array _ _ => true | _ => false) = false := by
                unfold aggT at hagg; rw [hu] at hagg; cases T <;> simp at hagg ⊢
              unfold Zho at hl'
              rw [hu] at hl'
              cases T <;> simp at hT <;> simp at hl' <;> subst hl'
              all_goals
                obtain ⟨x, y, rfl, rfl, hv⟩ := Zi0 hr
                refine ⟨x, y, Zb2 w hu rfl xs off (by simpa using hx 0 (by simp)), Zb2 w hu rfl ys off (by simpa using hy 0 (by simp)), ?_⟩
                unfold Zgx at hv
                cases x <;> cases y <;> simp at hv
              · rw [run_equalIn_bool w D t _ _ hu, ← hv]
              · obtain ⟨rfl, rfl⟩ := hv
                exact run_equalIn_int w D t _ _ _ _ hu
              · rw [run_equalIn_string w D t _ _ hu, ← hv]
      · simp at h
    · simp at h
end Go.Sx
