/-
  Operations of open order change places; a region in whatever order. Conditions: none.
-/
import Derived.Test.YtlbfafbhflblcaaSxM
namespace Go.Sx
open Go
set_option linter.unusedVariables false
section
variable {call : ZS} {base : Nat}
theorem Zda {o : SOp} {st st' : St} (ht : ∀ t ∈ o.looks, lk st.env t = lk st'.env t) (hs : ∀ i ∈ Z4 base o st, st.heap[i]? = st'.heap[i]?) (hl : o.op.calls = false ∨ st.heap.length = st'.heap.length) :
    Zaj call base o st = Zaj call base o st' ∧ Z4 base o st = Z4 base o st' := by
  have ho : ∀ t ∈ o.op.looks, lk st.env t = lk st'.env t := fun t h => ht t (by simp [SOp.looks, h])
  have key : (∀ i ∈ Zcu (base + o.slot) o.op (lk st.env) st.heap, st.heap[i]? = st'.heap[i]?) → evOp call (base + o.slot) o.op (lk st.env) st.heap = evOp call (base + o.slot) o.op (lk st'.env) st'.heap ∧ Zcu (base + o.slot) o.op (lk st.env) st.heap = Zcu (base + o.slot) o.op (lk st'.env) st'.heap := by
    intro h
    obtain ⟨h1, h2⟩ := Zkj (call := call) h hl
    obtain ⟨h3, h4⟩ := Zjj (call := call) (at_ := base + o.slot) (h := st'.heap) ho
    exact ⟨h1.trans h3, h2.trans h4⟩
  unfold Zaj Z4 at *
  cases hg : o.guard with
  | none =>
    rw [hg] at hs
    simp only at hs ⊢
    exact key hs
  | some g =>
    obtain ⟨g, want⟩ := g
    have hgt : lk st.env g = lk st'.env g := ht g (by simp [SOp.looks, hg])
    rw [hg] at hs
    simp only [hgt] at hs ⊢
    cases hb : lk st'.env g <;> rw [hb] at hs <;> simp only at hs ⊢ <;> (try exact ⟨trivial, trivial⟩)
    rotate_left
    · rename_i l
      cases l <;> exact ⟨rfl, trivial⟩
    rename_i b
    by_cases hw : b = want
    · rw [if_pos hw] at hs
      simp only [if_pos hw]
      exact key hs
    · simp only [if_neg hw]
      exact ⟨trivial, trivial⟩
theorem ZeF {o : SOp} {st : St} {e : Eff} (he : Zaj call base o st = some e) :
    (∀ p ∈ e.upd, p.1 ∈ Z4 base o st) ∧ (o.op.writes = false → e.upd = []) ∧ (o.op.calls = false → e.news = [] ∧ e.mvs = []) := by
  unfold Zaj at he
  unfold Z4
  cases hg : o.guard with
  | none =>
    rw [hg] at he
    exact Ziv he
  | some g =>
    obtain ⟨g, want⟩ := g
    rw [hg] at he
    simp only at he ⊢
    cases hb : lk st.env g <;> rw [hb] at he <;> simp only at he ⊢ <;> (try (cases he; done))
    rotate_left
    · rename_i l
      cases l with
      | nil =>
        cases he
        exact ⟨by simp, fun _ => rfl, fun _ => ⟨rfl, rfl⟩⟩
      | cons x l => cases he
    rename_i b
    by_cases hw : b = want
    · rw [if_pos hw] at he
      simp only [if_pos hw]
      exact Ziv he
    · rw [if_neg hw] at he
      cases he
      exact ⟨by simp, fun _ => rfl, fun _ => ⟨rfl, rfl⟩⟩
theorem ZeG {o : SOp} {st : St} (h : o.op.reads = false) : Z4 base o st = [] := by
  have : ∀ (at_ : Nat) (σ : Nat → EV) (hp : List Row), Zcu at_ o.op σ hp = [] := by
    intro at_ σ hp
    generalize o.op = so at h
    cases so <;> simp [SO.reads] at h <;> rfl
  unfold Z4
  split
  · split
    · split
      · exact this _ _ _
      · rfl
    · rfl
  · exact this _ _ _
theorem Zb4 {o : SO} (h : o.reads = false) : o.writes = false := by cases o <;> simp [SO.reads] at h <;> rfl
theorem Zbj {o : SO} (h : o.writes = false) : o.calls = false := by cases o <;> simp [SO.writes] at h <;> rfl
theorem ZeH {st : St} {d : Option Nat} {e : Eff} {t : Nat} (h : d ≠ some t) : lk (Zt st d e).env t = lk st.env t := by
  unfold Zt
  cases d with
  | none => rfl
  | some d => exact ZfV _ _ (fun e => h (by rw [e]))
theorem ZeI {a b : List Nat} (h : ZjG a b = true) : ∀ x ∈ a, x ∉ b := by
  unfold ZjG at h
  rw [List.all_eq_true] at h
  intro x hx hb
  have := h x hx
  simp [hb] at this
theorem ZdK {st : St} {d : Option Nat} {e : Eff} {i : Nat} (h1 : ∀ p ∈ e.upd, p.1 ≠ i) (h2 : i ∉ List.range' st.heap.length e.news.length) : (Zt st d e).heap[i]? = st.heap[i]? := by
  simp only [Zt]
  have hl := ZY e.upd st.heap
  by_cases hi : i < st.heap.length
  · rw [List.getElem?_append_left (by rw [hl]; exact hi), Zab _ _ _ h1]
  · simp only [List.mem_range'_1, not_and, Nat.not_lt] at h2
    have := h2 (by omega)
    rw [List.getElem?_eq_none (by rw [List.length_append, hl]; omega), List.getElem?_eq_none (by omega)]
def Comp (x y : SOp) (Tx Ty : List Nat) : Prop := Zfa x y = true ∧ (x.op.calls && y.op.calls) = false ∧ (Zdo x.op y.op = true → ZjG Tx Ty = true)
theorem swap {x y : SOp} {st : St} {ex ey : Eff} (hx : Zaj call base x st = some ex) (hy : Zaj call base y (Zt st x.dst ex) = some ey)
    (hc : Comp x y (Z4 base x st ++ List.range' st.heap.length ex.news.length) (Z4 base y (Zt st x.dst ex) ++ List.range' (Zt st x.dst ex).heap.length ey.news.length)) :
    Zaj call base y st = some ey ∧ Zaj call base x (Zt st y.dst ey) = some ex ∧ Zt (Zt st y.dst ey) x.dst ex = Zt (Zt st x.dst ex) y.dst ey ∧
      Z4 base y st ++ List.range' st.heap.length ey.news.length = Z4 base y (Zt st x.dst ex) ++ List.range' (Zt st x.dst ex).heap.length ey.news.length ∧
      Z4 base x (Zt st y.dst ey) ++ List.range' (Zt st y.dst ey).heap.length ex.news.length = Z4 base x st ++ List.range' st.heap.length ex.news.length := by
  obtain ⟨hap, hcc, hm⟩ := hc
  obtain ⟨ux, wx, nx⟩ := ZeF hx
  obtain ⟨uy, wy, ny⟩ := ZeF hy
  have hxd : ∀ t ∈ y.looks, x.dst ≠ some t := by
    intro t ht e
    simp only [Zfa, e, Bool.and_eq_true, Bool.not_eq_true'] at hap
    have := hap.1.1
    simp [ht] at this
  have hyd : ∀ t ∈ x.looks, y.dst ≠ some t := by
    intro t ht e
    simp only [Zfa, e, Bool.and_eq_true] at hap
    have := hap.2
    simp [ht] at this
  have hdd : ∀ d d', x.dst = some d → y.dst = some d' → d ≠ d' := by
    intro d d' h1 h2 e
    subst e
    simp only [Zfa, h1, h2, Bool.and_eq_true] at hap
    have := hap.1.2
    simp at this
  have hlen1 : (Zt st x.dst ex).heap.length = st.heap.length + ex.news.length := by simp [Zt, ZY]
  have hlen2 : (Zt st y.dst ey).heap.length = st.heap.length + ey.news.length := by simp [Zt, ZY]
  have hone : (ex.news = [] ∧ ex.mvs = []) ∨ (ey.news = [] ∧ ey.mvs = []) := by
    cases hxc : x.op.calls with
    | false => exact .inl (nx hxc)
    | true => rw [hxc] at hcc; simp at hcc; exact .inr (ny hcc)
  have hry : List.range' (Zt st x.dst ex).heap.length ey.news.length = List.range' st.heap.length ey.news.length := by
    rcases hone with h | h
    · rw [hlen1, h.1]; simp
    · rw [h.1]; simp
  have hrx : List.range' (Zt st y.dst ey).heap.length ex.news.length = List.range' st.heap.length ex.news.length := by
    rcases hone with h | h
    · rw [h.1]; simp
    · rw [hlen2, h.1]; simp
  have hyrows : ∀ i ∈ Z4 base y (Zt st x.dst ex), (∀ p ∈ ex.upd, p.1 ≠ i) ∧ i ∉ List.range' st.heap.length ex.news.length := by
    intro i hi
    cases hmt : Zdo x.op y.op with
    | true =>
      have hd := ZeI (hm hmt)
      refine ⟨fun p hp e => hd p.1 (by simp [ux p hp]) (by rw [e]; simp [hi]), fun hr => hd i (by simp only [List.mem_append]; exact .inr hr) (by simp [hi])⟩
    | false =>
      simp only [Zdo, Bool.or_eq_false_iff, Bool.and_eq_false_iff] at hmt
      rcases hmt.1 with h | h
      · have hn := nx (Zbj h)
        rw [wx h, hn.1]
        simp
      · rw [ZeG h] at hi
        cases hi
  obtain ⟨e1, e2⟩ := Zda (call := call) (base := base) (o := y) (st := Zt st x.dst ex) (st' := st) (fun t ht => ZeH (hxd t ht)) (fun i hi => ZdK (hyrows i hi).1 (hyrows i hi).2)
    (by
      cases hyc : y.op.calls with
      | false => exact .inl rfl
      | true =>
        right
        have : x.op.calls = false := by cases hxc : x.op.calls <;> rw [hxc, hyc] at hcc <;> simp at hcc ⊢
        rw [hlen1, (nx this).1]; rfl)
  have hxrows : ∀ i ∈ Z4 base x st, (∀ p ∈ ey.upd, p.1 ≠ i) ∧ i ∉ List.range' st.heap.length ey.news.length := by
    intro i hi
    cases hmt : Zdo x.op y.op with
    | true =>
      have hd := ZeI (hm hmt)
      refine ⟨fun p hp e => hd i (by simp [hi]) (by rw [← e]; simp [uy p hp]), fun hr => hd i (by simp [hi]) (by simp only [List.mem_append]; right; rw [hry]; exact hr)⟩
    | false =>
      simp only [Zdo, Bool.or_eq_false_iff, Bool.and_eq_false_iff] at hmt
      rcases hmt.2 with h | h
      · rw [ZeG h] at hi
        cases hi
      · have hn := ny (Zbj h)
        rw [wy h, hn.1]
        simp
  obtain ⟨f1, f2⟩ := Zda (call := call) (base := base) (o := x) (st := st) (st' := Zt st y.dst ey) (fun t ht => (ZeH (hyd t ht)).symm) (fun i hi => (ZdK (hxrows i hi).1 (hxrows i hi).2).symm)
    (by
      cases hxc : x.op.calls with
      | false => exact .inl rfl
      | true =>
        right
        have : y.op.calls = false := by cases hyc : y.op.calls <;> rw [hxc, hyc] at hcc <;> simp at hcc ⊢
        rw [hlen2, (ny this).1]; rfl)
  refine ⟨by rw [← e1]; exact hy, by rw [← f1]; exact hx, ?_, by rw [e2, hry], by rw [← f2, hrx]⟩
  have hkeys : ∀ p ∈ ex.upd, ∀ q ∈ ey.upd, p.1 ≠ q.1 := by
    intro p hp q hq e
    cases hmt : Zdo x.op y.op with
    | true => exact ZeI (hm hmt) p.1 (by simp [ux p hp]) (by rw [e]; simp [uy q hq])
    | false =>
      simp only [Zdo, Bool.or_eq_false_iff, Bool.and_eq_false_iff] at hmt
      rcases hmt.1 with h | h
      · rw [wx h] at hp; cases hp
      · rw [wy (Zb4 h)] at hq; cases hq
  have hheap : ex.upd.foldl setRow (ey.upd.foldl setRow st.heap ++ ey.news) ++ ex.news = ey.upd.foldl setRow (ex.upd.foldl setRow st.heap ++ ex.news) ++ ey.news := by
    have hc := ZdG ex.upd ey.upd st.heap hkeys
    rcases hone with h | h
    · rw [h.1, List.append_nil, List.append_nil]
      rw [Zbo _ _ _ (fun p hp hr => by
        rw [ZY] at hr
        cases hmt : Zdo x.op y.op with
        | true => exact ZeI (hm hmt) p.1 (by simp [ux p hp]) (by simp only [List.mem_append]; right; rw [hry]; exact hr)
        | false =>
          simp only [Zdo, Bool.or_eq_false_iff, Bool.and_eq_false_iff] at hmt
          rcases hmt.1 with h' | h'
          · rw [wx h'] at hp; cases hp
          · rw [(ny (Zbj (Zb4 h'))).1] at hr; simp at hr), hc]
    · rw [h.1, List.append_nil, List.append_nil]
      rw [Zbo ey.upd _ _ (fun p hp hr => by
        rw [ZY] at hr
        cases hmt : Zdo x.op y.op with
        | true => exact ZeI (hm hmt) p.1 (by simp only [List.mem_append]; right; exact hr) (by simp [uy p hp])
        | false =>
          simp only [Zdo, Bool.or_eq_false_iff, Bool.and_eq_false_iff] at hmt
          rcases hmt.1 with h' | h'
          · rw [(nx (Zbj h')).1] at hr; simp at hr
          · rw [wy (Zb4 h')] at hp; cases hp), hc]
  have hmvs : st.mvs ++ ey.mvs ++ ex.mvs = st.mvs ++ ex.mvs ++ ey.mvs := by
    rcases hone with h | h <;> rw [h.2] <;> simp
  simp only [Zt]
  rw [hheap, hmvs]
  cases hxd' : x.dst with
  | none => cases y.dst <;> rfl
  | some d =>
    cases hyd' : y.dst with
    | none => rfl
    | some d' => simp only [Zkg st.env ex.v ey.v (hdd d d' hxd' hyd')]
def Zcw (call : ZS) (base : Nat) (l : List SOp) : List Nat → St → Option (St × List (Nat × List Nat))
  | [], st => some (st, [])
  | i :: r, st => match l[i]? with
    | none => none
    | some o => (Zaj call base o st).bind fun e => (Zcw call base l r (Zt st o.dst e)).map fun x => (x.1, (i, Z4 base o st ++ List.range' st.heap.length e.news.length) :: x.2)
def Zmv (l : List SOp) (i j : Nat) (Ti Tj : List Nat) : Prop := ∀ x y, l[i]? = some x → l[j]? = some y → Comp x y Ti Tj
theorem Zcm {l : List SOp} {i : Nat} {r : List Nat} {st : St} {x : St × List (Nat × List Nat)} (h : Zcw call base l (i :: r) st = some x) :
    ∃ o e st' recs, l[i]? = some o ∧ Zaj call base o st = some e ∧ Zcw call base l r (Zt st o.dst e) = some (st', recs) ∧ x = (st', (i, Z4 base o st ++ List.range' st.heap.length e.news.length) :: recs) := by
  simp only [Zcw] at h
  cases hl : l[i]? with
  | none => rw [hl] at h; cases h
  | some o =>
    rw [hl] at h
    obtain ⟨e, he, h⟩ := Option.bind_eq_some_iff.1 h
    obtain ⟨y, hy, rfl⟩ := Option.map_eq_some_iff.1 h
    exact ⟨o, e, y.1, y.2, rfl, he, hy, rfl⟩
theorem Zf1 {l : List SOp} {i : Nat} {r : List Nat} {st st' : St} {o : SOp} {e : Eff} {recs : List (Nat × List Nat)} (hl : l[i]? = some o) (he : Zaj call base o st = some e) (hr : Zcw call base l r (Zt st o.dst e) = some (st', recs)) :
    Zcw call base l (i :: r) st = some (st', (i, Z4 base o st ++ List.range' st.heap.length e.news.length) :: recs) := by
  simp [Zcw, hl, he, hr]
theorem Zmw {l : List SOp} {i : Nat} {post : List Nat} : ∀ (pre : List Nat) (st st' : St) (recs : List (Nat × List Nat)), Zcw call base l (pre ++ i :: post) st = some (st', recs) →
    (∀ p ∈ pre, ∀ Tp Ti, (p, Tp) ∈ recs → (i, Ti) ∈ recs → Zmv l p i Tp Ti) →
    ∃ recs', Zcw call base l (i :: (pre ++ post)) st = some (st', recs') ∧ ∀ r, r ∈ recs' ↔ r ∈ recs
  | [], st, st', recs, h, _ => ⟨recs, h, fun _ => Iff.rfl⟩
  | p :: pre, st, st', recs, h, hc => by
    obtain ⟨op, ep, s1, r1, hlp, hep, hr1, hx⟩ := Zcm h
    cases hx
    obtain ⟨recs1, hb, hmem⟩ := Zmw pre _ _ _ hr1 (fun q hq Tq Ti h1 h2 => hc q (by simp [hq]) Tq Ti (by simp [h1]) (by simp [h2]))
    obtain ⟨oi, ei, s2, r2, hli, hei, hr2, hx⟩ := Zcm hb
    cases hx
    have hcomp : Comp op oi (Z4 base op st ++ List.range' st.heap.length ep.news.length) (Z4 base oi (Zt st op.dst ep) ++ List.range' (Zt st op.dst ep).heap.length ei.news.length) :=
      hc p (by simp) _ _ (by simp) (by
        have := (hmem (i, Z4 base oi (Zt st op.dst ep) ++ List.range' (Zt st op.dst ep).heap.length ei.news.length)).1 (by simp)
        simp only [List.mem_cons]
        exact .inr this) op oi hlp hli
    obtain ⟨g1, g2, g3, g4, g5⟩ := swap hep hei hcomp
    have hrun2 : Zcw call base l (p :: (pre ++ post)) (Zt st oi.dst ei) = some (st', (p, Z4 base op (Zt st oi.dst ei) ++ List.range' (Zt st oi.dst ei).heap.length ep.news.length) :: r2) :=
      Zf1 hlp g2 (by rw [g3]; exact hr2)
    refine ⟨_, Zf1 hli g1 hrun2, fun r => ?_⟩
    rw [g4, g5]
    have hm := hmem r
    simp only [List.mem_cons] at hm ⊢
    constructor
    · rintro (h | h | h)
      · exact .inr (hm.1 (.inl h))
      · exact .inl h
      · exact .inr (hm.1 (.inr h))
    · rintro (h | h)
      · exact .inr (.inl h)
      · rcases hm.2 h with h | h
        · exact .inl h
        · exact .inr (.inr h)
end
end Go.Sx
