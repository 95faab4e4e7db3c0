/-
  Operations of the abstract machine that may change places. Nothing of the model is in sight here. Conditions: none.
-/
import Derived.Test.YtlbfafbhflblcaaSxL
namespace Go.Sx
open Go
set_option linter.unusedVariables false
set_option linter.unusedSimpArgs false
theorem ZfV : ∀ (e : Env) {d t : Nat} (v : EV), t ≠ d → lk (up e d v) t = lk e t
  | [], _, _, _, _ => rfl
  | (s, u) :: r, d, t, v, h => by
    simp only [Zdn, Ze6]
    by_cases hs : d = s
    · subst hs
      simp [ZaT, ZbT, h]
    · rw [if_neg hs]
      simp only [ZaT, ZbT]
      rw [ZfV r v h]
theorem Zkg : ∀ (e : Env) {d d' : Nat} (v v' : EV), d ≠ d' → up (up e d v) d' v' = up (up e d' v') d v
  | [], _, _, _, _, _ => rfl
  | (s, u) :: r, d, d', v, v', h => by
    simp only [Zdn, Ze6]
    by_cases h1 : d = s
    · subst h1
      rw [if_neg (Ne.symm h)]
      simp [Zdn, Ze6, Ne.symm h]
    · by_cases h2 : d' = s
      · subst h2
        simp [Zdn, Ze6, h1]
      · simp only [Zdn, Ze6, h1, h2, if_false]
        rw [Zkg r v v' h]
theorem Zhz (h : List Row) {p q : Nat × Row} (hne : p.1 ≠ q.1) : setRow (setRow h p) q = setRow (setRow h q) p := by
  simp only [setRow]
  exact List.set_comm _ _ hne
theorem Zc5 (q : Nat × Row) : ∀ (u : List (Nat × Row)) (h : List Row), (∀ p ∈ u, p.1 ≠ q.1) → u.foldl setRow (setRow h q) = setRow (u.foldl setRow h) q
  | [], h, _ => rfl
  | p :: u, h, hp => by
    simp only [List.foldl_cons]
    rw [Zhz h (Ne.symm (hp p (by simp)))]
    exact Zc5 q u _ (fun p hp' => hp p (by simp [hp']))
theorem ZdG (u : List (Nat × Row)) : ∀ (v : List (Nat × Row)) (h : List Row), (∀ p ∈ u, ∀ q ∈ v, p.1 ≠ q.1) → u.foldl setRow (v.foldl setRow h) = v.foldl setRow (u.foldl setRow h)
  | [], h, _ => rfl
  | q :: v, h, hd => by
    simp only [List.foldl_cons]
    rw [ZdG u v _ (fun p hp q hq => hd p hp q (by simp [hq])), Zc5 q u h (fun p hp => hd p hp q (by simp))]
theorem Zbo : ∀ (u : List (Nat × Row)) (h n : List Row), (∀ p ∈ u, p.1 ∉ List.range' h.length n.length) → u.foldl setRow (h ++ n) = u.foldl setRow h ++ n
  | [], h, n, _ => rfl
  | p :: u, h, n, hp => by
    simp only [List.foldl_cons]
    have h1 : setRow (h ++ n) p = setRow h p ++ n := by
      have := hp p (by simp)
      simp only [List.mem_range'_1, not_and, Nat.not_lt] at this
      simp only [setRow]
      by_cases hl : p.1 < h.length
      · exact List.set_append_left _ _ hl
      · rw [List.set_eq_of_length_le (by simp; have := this (by omega); omega), List.set_eq_of_length_le (by omega)]
    rw [h1]
    exact Zbo u _ n (fun q hq => by simpa [setRow] using hp q (by simp [hq]))
theorem Zc6 (h : List Row) : ∀ (n : Nat) (todo seen : List Nat), ∀ i ∈ seen, i ∈ Zaa h n todo seen
  | 0, todo, seen, i, hi => by simpa [Zaa] using hi
  | n + 1, [], seen, i, hi => by simpa [Zaa] using hi
  | n + 1, j :: r, seen, i, hi => by
    simp only [Zaa]
    split
    · exact Zc6 h n r seen i hi
    · exact Zc6 h n _ _ i (by simp [hi])
theorem Zji (h : List Row) (t : Nat) : t ∈ Zaa h ZB [t] [] := by
  have e : ZB = 4095 + 1 := rfl
  rw [e]
  simp only [Zaa]
  split
  · rename_i hc; simp at hc
  · exact Zc6 h _ _ _ t (by simp)
theorem ZaA {h h' : List Row} : ∀ (n : Nat) (todo seen : List Nat), (∀ i ∈ Zaa h n todo seen, h[i]? = h'[i]?) → Zaa h' n todo seen = Zaa h n todo seen
  | 0, todo, seen, _ => rfl
  | n + 1, [], seen, _ => rfl
  | n + 1, j :: r, seen, hs => by
    simp only [Zaa] at hs ⊢
    split
    · rename_i hc
      rw [if_pos hc] at hs
      exact ZaA n r seen hs
    · rename_i hc
      rw [if_neg hc] at hs
      have hj : h[j]? = h'[j]? := hs j (Zc6 h n _ _ j (by simp))
      rw [← hj]
      exact ZaA n _ _ hs
theorem Zn {σ σ' : Nat → EV} {x : Opd} (h : ∀ t ∈ SO.looks.opdN x, σ t = σ' t) : x.ev σ = x.ev σ' := by
  cases x with
  | t n => exact h n (by simp [SO.looks.opdN])
  | c v => rfl
theorem Zaq {σ σ' : Nat → EV} : ∀ {l : List Opd}, (∀ t ∈ l.flatMap SO.looks.opdN, σ t = σ' t) → l.map (·.ev σ) = l.map (·.ev σ')
  | [], _ => rfl
  | x :: l, h => by
    simp only [List.flatMap_cons, List.mem_append] at h
    simp only [List.map_cons]
    rw [Zn (fun t ht => h t (.inl ht)), Zaq (fun t ht => h t (.inr ht))]
theorem ZbI {σ σ' : Nat → EV} : ∀ {l : List (Nat × Nat × Opd)}, (∀ t ∈ l.flatMap (fun p => SO.looks.opdN p.2.2), σ t = σ' t) → Z5 σ l = Z5 σ' l
  | [], _ => rfl
  | x :: l, h => by
    simp only [List.flatMap_cons, List.mem_append] at h
    have := ZbI (l := l) (fun t ht => h t (.inr ht))
    simp only [Z5, List.map_cons] at this ⊢
    rw [Zn (fun t ht => h t (.inl ht)), this]
theorem Za1 {σ σ' : Nat → EV} {x : Option Opd} (h : ∀ t ∈ (match x with | some a => SO.looks.opdN a | none => []), σ t = σ' t) : x.map (·.ev σ) = x.map (·.ev σ') := by
  cases x with
  | none => rfl
  | some x => simp only [Option.map_some]; rw [Zn h]
theorem Zjj {call : ZS} {at_ : Nat} {o : SO} {σ σ' : Nat → EV} {h : List Row} (hσ : ∀ t ∈ o.looks, σ t = σ' t) : evOp call at_ o σ h = evOp call at_ o σ' h ∧ Zcu at_ o σ h = Zcu at_ o σ' h := by
  cases o <;> simp only [SO.looks, List.mem_append, or_imp, forall_and] at hσ <;> simp only [evOp, Zcu]
  case mv x => rw [Zn hσ]; exact ⟨rfl, by first | trivial | rfl⟩
  case pick a b c => rw [Zn hσ.1.1, Zn hσ.1.2, Zn hσ.2]; exact ⟨rfl, by first | trivial | rfl⟩
  case bin op ty x y => rw [Zn hσ.1, Zn hσ.2]; exact ⟨rfl, by first | trivial | rfl⟩
  case un op x => rw [Zn hσ]; exact ⟨rfl, by first | trivial | rfl⟩
  case conv k x => rw [Zn hσ]; exact ⟨rfl, by first | trivial | rfl⟩
  case build z ps => rw [ZbI hσ]; exact ⟨rfl, by first | trivial | rfl⟩
  case field off m x => rw [Zn hσ]; exact ⟨rfl, by first | trivial | rfl⟩
  case fieldAddr off x => rw [Zn hσ]; exact ⟨rfl, by first | trivial | rfl⟩
  case idxA l s x i => rw [Zn hσ.1, Zn hσ.2]; exact ⟨rfl, by first | trivial | rfl⟩
  case idxS s x i => rw [Zn hσ.1, Zn hσ.2]; exact ⟨rfl, by first | trivial | rfl⟩
  case idxV l s ag x i => rw [Zn hσ.1, Zn hσ.2]; exact ⟨rfl, by first | trivial | rfl⟩
  case idxStr x i => rw [Zn hσ.1, Zn hσ.2]; exact ⟨rfl, by first | trivial | rfl⟩
  case extract x i => rw [Zn hσ]; exact ⟨rfl, by first | trivial | rfl⟩
  case nilck x => rw [Zn hσ]; exact ⟨rfl, by first | trivial | rfl⟩
  case slStr x lo hi => rw [Zn hσ.1.1, Za1 hσ.1.2, Za1 hσ.2]; exact ⟨rfl, by first | trivial | rfl⟩
  case slS s x lo hi => rw [Zn hσ.1.1, Za1 hσ.1.2, Za1 hσ.2]; exact ⟨rfl, by first | trivial | rfl⟩
  case slA m s x lo hi => rw [Zn hσ.1.1, Za1 hσ.1.2, Za1 hσ.2]; exact ⟨rfl, by first | trivial | rfl⟩
  case len k x => rw [Zn hσ]; exact ⟨rfl, by first | trivial | rfl⟩
  case mx m l => rw [Zaq hσ]; exact ⟨rfl, by first | trivial | rfl⟩
  case callP f l => rw [Zaq hσ]; exact ⟨rfl, by first | trivial | rfl⟩
  case mkfn f x y => rw [Zaq hσ.1, Zaq hσ.2]; exact ⟨rfl, by first | trivial | rfl⟩
  case alloc z => first | exact ⟨rfl, rfl⟩ | simp | trivial
  case box x => rw [Zn hσ]; exact ⟨rfl, by first | trivial | rfl⟩
  case bslice s l z ps => rw [ZbI hσ]; exact ⟨rfl, by first | trivial | rfl⟩
  case bsliceF ks s l z ps => rw [ZbI hσ]; exact ⟨rfl, by first | trivial | rfl⟩
  case mkslice s b z x y => rw [Zn hσ.1, Zn hσ.2]; exact ⟨rfl, by first | trivial | rfl⟩
  case load m x => rw [Zn hσ]; exact ⟨rfl, by first | trivial | rfl⟩
  case store m x y => rw [Zn hσ.1, Zn hσ.2]; exact ⟨rfl, by first | trivial | rfl⟩
  case app s b x y => rw [Zn hσ.1, Zn hσ.2]; exact ⟨rfl, by first | trivial | rfl⟩
  case copy s x y => rw [Zn hσ.1, Zn hσ.2]; exact ⟨rfl, by first | trivial | rfl⟩
  case toStr x => rw [Zn hσ]; exact ⟨rfl, by first | trivial | rfl⟩
  case call f l => rw [Zaq hσ]; exact ⟨rfl, by first | trivial | rfl⟩
  case callB f b l => rw [Zaq hσ]; exact ⟨rfl, by first | trivial | rfl⟩
  case callv g l => rw [Zn hσ.1, Zaq hσ.2]; exact ⟨rfl, by first | trivial | rfl⟩
  case loadT m x => rw [Zn hσ]; exact ⟨rfl, by first | trivial | rfl⟩
  case appT z b x y => rw [Zn hσ.1, Zn hσ.2]; exact ⟨rfl, by first | trivial | rfl⟩
  case callT f z l => rw [Zaq hσ]; exact ⟨rfl, by first | trivial | rfl⟩
theorem Zc7 {h h' : List Row} {sz k : Nat} {x : EV} (hs : ∀ i ∈ ptrs x, h[i]? = h'[i]?) : ZaU h sz k x = ZaU h' sz k x := by
  unfold ZaU
  split
  · rfl
  · rename_i r o n z
    rw [hs r (by simp [ptrs])]
  · rfl
  · rfl
theorem Zai {h h' : List Row} {i : Nat} (hs : h[i]? = h'[i]?) : fresh h i = fresh h' i := by unfold fresh; rw [hs]
theorem ZaQ {h h' : List Row} {i : Nat} (hs : h[i]? = h'[i]?) : Zo h i = Zo h' i := by
  unfold Zo
  rw [List.getD_eq_getElem?_getD, List.getD_eq_getElem?_getD, hs]
theorem ZdH {call : ZS} {f : FuncId} {args : List EV} {h h' : List Row} (hs : ∀ i ∈ Zaa h ZB (ZI args) [], h[i]? = h'[i]?) (hl : h.length = h'.length) : Za3 call f args h = Za3 call f args h' := by
  unfold Za3
  rw [ZaA _ _ _ hs]
  simp only [← hl]
  have hfr : (Zaa h ZB (ZI args) []).all (fun i => decide (i < h.length) && !fresh h i) = (Zaa h ZB (ZI args) []).all (fun i => decide (i < h.length) && !fresh h' i) := by
    rw [Bool.eq_iff_iff, List.all_eq_true, List.all_eq_true]
    constructor
    · intro hh i hi; rw [← Zai (hs i hi)]; exact hh i hi
    · intro hh i hi; rw [Zai (hs i hi)]; exact hh i hi
  rw [← hfr]
  have : (Zaa h ZB (ZI args) []).map (fun i => Zr (ZT (Zaa h ZB (ZI args) [])) (Zo h i)) = (Zaa h ZB (ZI args) []).map (fun i => Zr (ZT (Zaa h ZB (ZI args) [])) (Zo h' i)) :=
    List.map_congr_left fun i hi => by rw [ZaQ (hs i hi)]
  rw [this]
theorem Zjk {h h' : List Row} {T : List Nat} {ks : List NK} {c : EV} (hs : ∀ i ∈ T, h[i]? = h'[i]?) : frzC h T ks c = frzC h' T ks c := by
  unfold frzC
  split
  · rename_i l
    have h1 : ((ZI l).all fun r => ZaF h r && T.contains r) = ((ZI l).all fun r => ZaF h' r && T.contains r) := by
      congr 1
      funext r
      by_cases hr : r ∈ T
      · unfold ZaF; rw [hs r hr]
      · simp [hr]
    rw [h1]
    split
    · rename_i hc
      simp only [Bool.and_eq_true, List.all_eq_true] at hc
      rw [Zbi (h' := h') fun i hi => hs i (by simpa using (hc.2 i hi).2)]
    · rfl
  · rfl
theorem Zkh {h : List Row} {T : List Nat} {ks : List NK} {c : EV} {x : EV × List Nat} (hx : frzC h T ks c = some x) : ∀ r ∈ x.2, r ∈ T := by
  unfold frzC at hx
  split at hx
  · split at hx
    · rename_i hc
      simp only [Bool.and_eq_true, List.all_eq_true] at hc
      simp only [Option.map_eq_some_iff] at hx
      obtain ⟨y, _, rfl⟩ := hx
      intro r hr
      simpa using (hc.2 r hr).2
    · cases hx
  · cases hx
    intro r hr; cases hr
theorem Zjl {h h' : List Row} {b : BK} {v : EV} (hs : ∀ i ∈ ptrs v, h[i]? = h'[i]?) : bArg h b v = bArg h' b v := by
  unfold bArg
  split <;> try rfl
  · rw [Zbi (h' := h') fun i hi => hs i (by simpa [ptrs] using hi)]
  · rw [Zez hs]
theorem ZeD {h h' : List Row} : ∀ {bs : List BK} {l : List EV}, (∀ i ∈ ZI l, h[i]? = h'[i]?) → ZdV h bs l = ZdV h' bs l
  | [], [], _ => rfl
  | b :: bs, v :: l, hs => by
    simp only [ZdV]
    rw [Zjl (h' := h') fun i hi => hs i (by simp [ZI, hi]), ZeD (h' := h') fun i hi => hs i (by simp [ZI, hi])]
  | [], v :: l, _ => rfl
  | b :: bs, [], _ => rfl
theorem ZfW {call : ZS} {f : FuncId} {bs : List BK} {args : List EV} {h h' : List Row} (hs : ∀ i ∈ ZI args, h[i]? = h'[i]?) (hl : h.length = h'.length) : Zbz call f bs args h = Zbz call f bs args h' := by
  unfold Zbz
  rw [ZeD hs, hl]
theorem Zc8 {h h' : List Row} {ids : List Nat} (hs : ∀ i ∈ ids, h[i]? = h'[i]?) : Zac h ids = Zac h' ids := by
  unfold Zac
  exact List.map_congr_left fun i hi => by rw [ZaQ (hs i hi)]
theorem ZdI {h h' : List Row} {i : Nat} (hs : h[i]? = h'[i]?) : ZaF h i = ZaF h' i := by unfold ZaF; rw [hs]
theorem ZfX {h h' : List Row} {z t : Nat} {l : List EV} (hs : ∀ i ∈ Zaa h ZB [t] [], h[i]? = h'[i]?) : Za4 h z t l = Za4 h' z t l := by
  unfold Za4
  rw [ZaA _ _ _ hs]
  split
  · rename_i t' r hr
    rw [hr] at hs
    by_cases ht : t' = t
    · subst ht
      have hall : (t' :: r).all (fun i => ZaF h i && noF (Zo h i).c) = (t' :: r).all (fun i => ZaF h' i && noF (Zo h' i).c) := by
        rw [Bool.eq_iff_iff, List.all_eq_true, List.all_eq_true]
        constructor
        · intro hh i hi; rw [← ZdI (hs i hi), ← ZaQ (hs i hi)]; exact hh i hi
        · intro hh i hi; rw [ZdI (hs i hi), ZaQ (hs i hi)]; exact hh i hi
      rw [hall, Zc8 hs, Zc8 (ids := r) fun i hi => hs i (by simp [hi])]
    · rw [if_neg (fun e => ht e.1), if_neg (fun e => ht e.1)]
  · rfl
theorem Zfp {h : List Row} {z t : Nat} {l : List EV} {m : List (Bool × EV)} {ids : List Nat} (hn : Za4 h z t l = some (m, ids)) : Zaa h ZB [t] [] = t :: ids := by
  unfold Za4 at hn
  split at hn
  · rename_i t' r hr
    split at hn
    · rename_i hc
      rw [hr, hc.1]
      split at hn
      · split at hn
        · split at hn
          · simp only [Option.some.injEq, Prod.mk.injEq] at hn; rw [hn.2]
          · cases hn
        · cases hn
      · split at hn
        · simp only [Option.some.injEq, Prod.mk.injEq] at hn; rw [hn.2]
        · cases hn
    · cases hn
  · cases hn
theorem ZgM {h h' : List Row} {z : Nat} {a : EV} (hs : ∀ i ∈ ptrs a, h[i]? = h'[i]?) : ZbV h z a = ZbV h' z a := by
  unfold ZbV
  split
  · rw [hs _ (by simp [ptrs])]
  · rw [hs _ (by simp [ptrs])]
  · rfl
theorem Zki {h : List Row} {z : Nat} {a : EV} {x : Nat × List (List (Bool × EV)) × Nat × List (Bool × EV)} (hx : ZbV h z a = some x) : x.1 ∈ ptrs a := by
  unfold ZbV at hx
  repeat' split at hx
  all_goals first | (cases hx; done) | (simp only [Option.map_eq_some_iff] at hx; obtain ⟨m, _, rfl⟩ := hx; simp [ptrs])
theorem Zkj {call : ZS} {at_ : Nat} {o : SO} {σ : Nat → EV} {h h' : List Row} (hs : ∀ i ∈ Zcu at_ o σ h, h[i]? = h'[i]?) (hl : o.calls = false ∨ h.length = h'.length) : evOp call at_ o σ h = evOp call at_ o σ h' ∧ Zcu at_ o σ h = Zcu at_ o σ h' := by
  cases o <;> simp only [Zcu] at hs <;> simp only [evOp, Zcu, and_true]
  case slA m s x lo hi =>
    split
    · rename_i r o hr
      rw [hr] at hs
      rw [hs r (by simp [ptrs])]
    · rfl
  case load m x =>
    split
    · rename_i r o hr
      rw [hr] at hs
      rw [hs r (by simp [ptrs])]
    · rfl
    · rfl
  case store m x y =>
    split
    · rename_i r o hr
      rw [hr] at hs
      rw [hs r (by simp [ptrs])]
    · rfl
  case alloc z => rw [Zai (hs at_ (by simp))]
  case box x => rw [Zai (hs at_ (by simp))]
  case bslice s l z ps => rw [Zai (hs at_ (by simp))]
  case bsliceF ks s l z ps =>
    rw [Zai (hs at_ (by simp))]
    rw [show frzC h (Zbe (Z5 σ ps)) ks = frzC h' (Zbe (Z5 σ ps)) ks from funext fun c => Zjk fun i hi => hs i (by simp [hi])]
    have key : ∀ c, (frzC h' (Zbe (Z5 σ ps)) ks c).map (ZcR h ks at_ l s) = (frzC h' (Zbe (Z5 σ ps)) ks c).map (ZcR h' ks at_ l s) := by
      intro c
      cases hx : frzC h' (Zbe (Z5 σ ps)) ks c with
      | none => rfl
      | some x =>
        have hin := Zkh hx
        simp only [Option.map_some, ZcR]
        rw [show (x.2.map fun r => (r, Zcz h ks r)) = (x.2.map fun r => (r, Zcz h' ks r)) from List.map_congr_left fun r hr => by
          have : Zo h r = Zo h' r := ZaQ (hs r (by simp [hin r hr]))
          unfold Zcz
          rw [this]]
    simp only [key]
  case mkslice s b z x y => rw [Zai (hs at_ (by simp))]
  case app s b x y =>
    have h1 : ZcF h s (y.ev σ) = ZcF h' s (y.ev σ) := Zc7 (fun i hi => hs i (by simp [hi]))
    rw [Zai (hs at_ (by simp)), h1]
    split
    · rfl
    · rename_i r o m z hr
      rw [hr] at hs
      rw [hs r (by simp [ptrs])]
    · rfl
  case copy s x y =>
    split
    · rename_i r o m z hr
      rw [hr] at hs
      rw [hs r (by simp [ptrs]), Zc7 (h := h) (h' := h') (fun i hi => hs i (by simp [hi]))]
    · rfl
    · rfl
  case toStr x =>
    split
    · rfl
    · rename_i r o m z hr
      rw [hr] at hs
      rw [hs r (by simp [ptrs])]
    · rfl
    · rfl
  case call f l =>
    simp only [SO.calls, Bool.true_eq_false, false_or] at hl
    exact ⟨ZdH hs hl, (ZaA _ _ _ hs).symm⟩
  case callB f b l =>
    simp only [SO.calls, Bool.true_eq_false, false_or] at hl
    exact ZfW hs hl
  case callv g l =>
    simp only [SO.calls, Bool.true_eq_false, false_or] at hl
    split
    · rename_i f x y hg
      rw [hg] at hs
      exact ⟨ZdH hs hl, (ZaA _ _ _ hs).symm⟩
    · exact ⟨rfl, rfl⟩
  case loadT m x =>
    split
    · rename_i r o hr
      rw [hr] at hs
      rw [hs r (by simp [ptrs])]
    · rfl
    · rfl
  case callT f z l =>
    split
    · rename_i a as ha
      rw [ha] at hs
      rw [ZgM (h := h) (h' := h') fun i hi => hs i (by simp [ZI, hi])]
    · rfl
  case appT z b x y =>
    have hr := ZaA (h := h) (h' := h') ZB (ptrs (y.ev σ)) [] fun i hi => hs i (by simp [hi])
    refine ⟨?_, by rw [hr]⟩
    rw [Zai (hs at_ (by simp))]
    split
    · rename_i t zz hy
      rw [hy] at hs
      simp only [ptrs] at hs
      have ht := Zji h t
      rw [hs t (by simp [ht])]
      split
      · split
        · rename_i row hrow
          split
          · rename_i l _ _
            rw [ZfX (h := h) (h' := h') fun i hi => hs i (by simp [hi])]
            split
            · split
              · split
                · split
                  · rfl
                  · rename_i r n zz' hx
                    rw [hx] at hs
                    rw [hs r (by simp [ptrs])]
                  · rfl
                · rfl
              · rfl
            · rfl
          · rfl
        · rfl
      · rfl
    · rfl
theorem Ziv {call : ZS} {at_ : Nat} {o : SO} {σ : Nat → EV} {h : List Row} {e : Eff} (he : evOp call at_ o σ h = some e) :
    (∀ p ∈ e.upd, p.1 ∈ Zcu at_ o σ h) ∧ (o.writes = false → e.upd = []) ∧ (o.calls = false → e.news = [] ∧ e.mvs = []) := by
  have hcallAt : ∀ (f : FuncId) (args : List EV) (e : Eff), Za3 call f args h = some e → ∀ p ∈ e.upd, p.1 ∈ Zaa h ZB (ZI args) [] := by
    intro f args e he p hp
    unfold Za3 at he
    simp only at he
    split at he
    · split at he
      · simp at he
      · simp only [Option.some.injEq] at he
        subst he
        simp only [List.mem_map, List.mem_range] at hp
        obtain ⟨q, hq, rfl⟩ := hp
        have hg : (Zaa h ZB (ZI args) []).getD q 0 = (Zaa h ZB (ZI args) [])[q] := by simp [List.getD_eq_getElem?_getD, List.getElem?_eq_getElem hq]
        simp only
        rw [hg]
        exact List.getElem_mem hq
    · simp at he
  cases o <;> simp only [evOp] at he <;> simp only [Zcu, SO.writes, SO.calls]
  case store m x y =>
    split at he
    · rename_i r o hr
      rw [hr]
      split at he
      · split at he
        · simp only [Option.map_eq_some_iff] at he
          obtain ⟨c, _, rfl⟩ := he
          exact ⟨fun p hp => by simp at hp; simp [ptrs, hp], by simp, fun _ => ⟨rfl, rfl⟩⟩
        · simp at he
      · simp at he
    · simp at he
  case alloc z =>
    split at he
    · simp only [Option.some.injEq] at he; subst he
      exact ⟨fun p hp => by simp at hp; simp [hp], by simp, fun _ => ⟨rfl, rfl⟩⟩
    · simp at he
  case box x =>
    split at he
    · simp only [Option.some.injEq] at he; subst he
      exact ⟨fun p hp => by simp at hp; simp [hp], by simp, fun _ => ⟨rfl, rfl⟩⟩
    · simp at he
  case bslice s l z ps =>
    split at he
    · simp only [Option.map_eq_some_iff] at he
      obtain ⟨c, _, rfl⟩ := he
      exact ⟨fun p hp => by simp at hp; simp [hp], by simp, fun _ => ⟨rfl, rfl⟩⟩
    · simp at he
  case bsliceF ks s l z ps =>
    split at he
    · simp only [Option.bind_eq_some_iff, Option.map_eq_some_iff] at he
      obtain ⟨c, _, x, hx, rfl⟩ := he
      refine ⟨fun p hp => ?_, by simp, fun _ => ⟨rfl, rfl⟩⟩
      simp only [ZcR, List.mem_cons, List.mem_map] at hp
      rcases hp with rfl | ⟨r, hr, rfl⟩
      · simp
      · exact List.mem_cons_of_mem _ (Zkh hx r hr)
    · simp at he
  case mkslice s b z x y =>
    split at he
    · split at he
      · simp only [Option.some.injEq] at he; subst he
        exact ⟨fun p hp => by simp at hp; simp [hp], by simp, fun _ => ⟨rfl, rfl⟩⟩
      · simp at he
    · simp at he
  case app s b x y =>
    refine ⟨?_, by simp, by simp⟩
    split at he
    · split at he
      · simp only [Option.map_eq_some_iff] at he
        obtain ⟨c, _, rfl⟩ := he
        simp
      · split at he
        · simp only [Option.map_eq_some_iff] at he
          obtain ⟨c, _, rfl⟩ := he
          intro p hp; simp at hp; simp [hp]
        · simp at he
    · rename_i r o m z hr
      split at he
      · split at he
        · split at he
          · simp only [Option.map_eq_some_iff] at he
            obtain ⟨c, _, rfl⟩ := he
            intro p hp
            simp at hp
            rw [hr]
            rcases hp with rfl | rfl <;> simp [ptrs]
          · simp at he
        · simp at he
      · simp at he
    · simp at he
  case copy s x y =>
    refine ⟨?_, by simp, ?_⟩
    · split at he
      · rename_i r o m z hr
        rw [hr]
        split at he
        · split at he
          · simp only [Option.some.injEq] at he; subst he; simp
          · split at he
            · split at he
              · simp only [Option.bind_eq_some_iff, Option.map_eq_some_iff] at he
                obtain ⟨c, _, c', _, rfl⟩ := he
                intro p hp; simp at hp; simp [ptrs, hp]
              · simp at he
            · simp at he
        · simp at he
      · split at he <;> simp at he <;> subst he <;> simp
      · simp at he
    · intro _
      split at he
      · split at he
        · split at he
          · simp only [Option.some.injEq] at he; subst he; exact ⟨rfl, rfl⟩
          · split at he
            · split at he
              · simp only [Option.bind_eq_some_iff, Option.map_eq_some_iff] at he
                obtain ⟨c, _, c', _, rfl⟩ := he
                exact ⟨rfl, rfl⟩
              · simp at he
            · simp at he
        · simp at he
      · split at he <;> simp at he <;> subst he <;> exact ⟨rfl, rfl⟩
      · simp at he
  case call f l => exact ⟨hcallAt _ _ _ he, by simp, by simp⟩
  case callB f b l =>
    unfold Zbz at he
    split at he
    · cases he
    · split at he
      · split at he
        · split at he
          · simp only [Option.some.injEq] at he
            subst he
            exact ⟨by simp, by simp, by simp⟩
          · cases he
        · cases he
      · cases he
  case callv g l =>
    split at he
    · exact ⟨hcallAt _ _ _ he, by simp, by simp⟩
    · simp at he
  case loadT m x =>
    have hp : e.upd = [] ∧ e.news = [] ∧ e.mvs = [] := by
      repeat' split at he
      all_goals first
        | (cases he; done)
        | (obtain ⟨_, _, rfl⟩ := Option.map_eq_some_iff.1 he; exact ⟨rfl, rfl, rfl⟩)
    exact ⟨by rw [hp.1]; simp, fun _ => hp.1, fun _ => hp.2⟩
  case callT f z l =>
    split at he
    · rename_i a as ha
      split at he
      · rename_i r els i m hx
        obtain ⟨x, _, rfl⟩ := Option.map_eq_some_iff.1 he
        refine ⟨fun p hp => ?_, by simp, fun _ => ⟨rfl, rfl⟩⟩
        simp only [List.mem_singleton] at hp
        subst hp
        rw [ha]
        have := Zki hx
        simp [ZI, this]
      · cases he
    · cases he
  case appT z b x y =>
    refine ⟨fun p hp => ?_, by simp, by simp⟩
    split at he
    · rename_i t zz hy
      rw [hy]
      simp only [ptrs]
      split at he
      · split at he
        · split at he
          · split at he
            · split at he
              · rename_i m ids hn
                have hin := Zfp hn
                rw [hin]
                split at he
                · split at he
                  · split at he
                    · simp only [Option.some.injEq] at he
                      subst he
                      simp only [List.mem_cons, List.mem_map] at hp
                      rcases hp with rfl | ⟨r, hr, rfl⟩
                      · simp
                      · rcases hr with rfl | hr <;> simp [*]
                    · cases he
                  · rename_i r n zz' hx
                    rw [hx]
                    simp only [ptrs]
                    split at he
                    · split at he
                      · split at he
                        · simp only [Option.some.injEq] at he
                          subst he
                          simp only [List.mem_cons, List.mem_map] at hp
                          rcases hp with rfl | rfl | ⟨r', hr, rfl⟩
                          · simp
                          · simp
                          · rcases hr with rfl | hr <;> simp [*]
                        · cases he
                      · cases he
                    · cases he
                  · cases he
                · cases he
              · cases he
            · cases he
          · cases he
        · cases he
      · cases he
    · cases he
  case slA m z x lo hi =>
    split at he
    · obtain ⟨b, _, he⟩ := Option.bind_eq_some_iff.1 he
      obtain ⟨c, _, he⟩ := Option.bind_eq_some_iff.1 he
      split at he
      · split at he
        · cases he; exact ⟨by simp, fun _ => rfl, fun _ => ⟨rfl, rfl⟩⟩
        · cases he
      · cases he
    · cases he
  case idxV l z ag x i =>
    obtain ⟨b, _, he⟩ := Option.bind_eq_some_iff.1 he
    split at he
    · obtain ⟨_, _, rfl⟩ := Option.map_eq_some_iff.1 he; exact ⟨by simp, fun _ => rfl, fun _ => ⟨rfl, rfl⟩⟩
    · obtain ⟨_, _, rfl⟩ := Option.map_eq_some_iff.1 he; exact ⟨by simp, fun _ => rfl, fun _ => ⟨rfl, rfl⟩⟩
  all_goals
    have hpure : e.upd = [] ∧ e.news = [] ∧ e.mvs = [] := by
      repeat' split at he
      all_goals first
        | (cases he; done)
        | (cases he; exact ⟨rfl, rfl, rfl⟩)
        | (obtain ⟨_, _, rfl⟩ := Option.map_eq_some_iff.1 he; exact ⟨rfl, rfl, rfl⟩)
        | (obtain ⟨_, _, he⟩ := Option.bind_eq_some_iff.1 he; obtain ⟨_, _, rfl⟩ := Option.map_eq_some_iff.1 he; exact ⟨rfl, rfl, rfl⟩)
        | (obtain ⟨_, _, he⟩ := Option.bind_eq_some_iff.1 he; obtain ⟨_, _, he⟩ := Option.bind_eq_some_iff.1 he; split at he <;> cases he; exact ⟨rfl, rfl, rfl⟩)
    exact ⟨by rw [hpure.1]; simp, fun _ => hpure.1, fun _ => hpure.2⟩
end Go.Sx
