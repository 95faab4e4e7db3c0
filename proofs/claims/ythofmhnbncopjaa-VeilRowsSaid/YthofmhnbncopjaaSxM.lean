/-
  Operations of the abstract machine that may change places. Nothing of the model is in sight here. Conditions: none.
-/
import Derived.Test.YthofmhnbncopjaaSxL
namespace Go.Sx
open Go
set_option linter.unusedVariables false
set_option linter.unusedSimpArgs false

/-! ### The frame -/
theorem lk_up_ne : ∀ (e : Env) {d t : Nat} (v : EV), t ≠ d → lk (up e d v) t = lk e t
  | [], _, _, _, _ => rfl
  | (s, u) :: r, d, t, v, h => by
    simp only [up_cons, up_nil]
    by_cases hs : d = s
    · subst hs
      simp [lk_cons, lk_nil, h]
    · rw [if_neg hs]
      simp only [lk_cons, lk_nil]
      rw [lk_up_ne r v h]
theorem up_comm : ∀ (e : Env) {d d' : Nat} (v v' : EV), d ≠ d' → up (up e d v) d' v' = up (up e d' v') d v
  | [], _, _, _, _, _ => rfl
  | (s, u) :: r, d, d', v, v', h => by
    simp only [up_cons, up_nil]
    by_cases h1 : d = s
    · subst h1
      rw [if_neg (Ne.symm h)]
      simp [up_cons, up_nil, Ne.symm h]
    · by_cases h2 : d' = s
      · subst h2
        simp [up_cons, up_nil, h1]
      · simp only [up_cons, up_nil, h1, h2, if_false]
        rw [up_comm r v v' h]

/-! ### Rows, set one by one -/
theorem setRow_comm (h : List Row) {p q : Nat × Row} (hne : p.1 ≠ q.1) : setRow (setRow h p) q = setRow (setRow h q) p := by
  simp only [setRow]
  exact List.set_comm _ _ hne
theorem setRows_comm1 (q : Nat × Row) : ∀ (u : List (Nat × Row)) (h : List Row), (∀ p ∈ u, p.1 ≠ q.1) → u.foldl setRow (setRow h q) = setRow (u.foldl setRow h) q
  | [], h, _ => rfl
  | p :: u, h, hp => by
    simp only [List.foldl_cons]
    rw [setRow_comm h (Ne.symm (hp p (by simp)))]
    exact setRows_comm1 q u _ (fun p hp' => hp p (by simp [hp']))
theorem setRows_comm (u : List (Nat × Row)) : ∀ (v : List (Nat × Row)) (h : List Row), (∀ p ∈ u, ∀ q ∈ v, p.1 ≠ q.1) → u.foldl setRow (v.foldl setRow h) = v.foldl setRow (u.foldl setRow h)
  | [], h, _ => rfl
  | q :: v, h, hd => by
    simp only [List.foldl_cons]
    rw [setRows_comm u v _ (fun p hp q hq => hd p hp q (by simp [hq])), setRows_comm1 q u h (fun p hp => hd p hp q (by simp))]
theorem setRows_append : ∀ (u : List (Nat × Row)) (h n : List Row), (∀ p ∈ u, p.1 ∉ List.range' h.length n.length) → u.foldl setRow (h ++ n) = u.foldl setRow h ++ n
  | [], h, n, _ => rfl
  | p :: u, h, n, hp => by
    simp only [List.foldl_cons]
    have h1 : setRow (h ++ n) p = setRow h p ++ n := by
      have := hp p (by simp)
      simp only [List.mem_range'_1, not_and, Nat.not_lt] at this
      simp only [setRow]
      by_cases hl : p.1 < h.length
      · exact List.set_append_left _ _ hl
      · rw [List.set_eq_of_length_le (by simp; have := this (by omega); omega), List.set_eq_of_length_le (by omega)]
    rw [h1]
    exact setRows_append u _ n (fun q hq => by simpa [setRow] using hp q (by simp [hq]))

/-! ### What an operation looks at -/
theorem mem_ptrsL {l : List EV} {x : EV} (hx : x ∈ l) {r : Nat} (hr : r ∈ ptrs x) : r ∈ ptrsL l := by
  induction l with
  | nil => cases hx
  | cons e l ih =>
    simp only [ptrsL, List.mem_append]
    rcases List.mem_cons.1 hx with rfl | hx
    · exact .inl hr
    · exact .inr (ih hx)

theorem reach_sub (h : List Row) : ∀ (n : Nat) (todo seen : List Nat), ∀ i ∈ seen, i ∈ reach h n todo seen
  | 0, todo, seen, i, hi => by simpa [reach] using hi
  | n + 1, [], seen, i, hi => by simpa [reach] using hi
  | n + 1, j :: r, seen, i, hi => by
    simp only [reach]
    split
    · exact reach_sub h n r seen i hi
    · exact reach_sub h n _ _ i (by simp [hi])
theorem reach_congr {h h' : List Row} : ∀ (n : Nat) (todo seen : List Nat), (∀ i ∈ reach h n todo seen, h[i]? = h'[i]?) → reach h' n todo seen = reach h n todo seen
  | 0, todo, seen, _ => rfl
  | n + 1, [], seen, _ => rfl
  | n + 1, j :: r, seen, hs => by
    simp only [reach] at hs ⊢
    split
    · rename_i hc
      rw [if_pos hc] at hs
      exact reach_congr n r seen hs
    · rename_i hc
      rw [if_neg hc] at hs
      have hj : h[j]? = h'[j]? := hs j (reach_sub h n _ _ j (by simp))
      rw [← hj]
      exact reach_congr n _ _ hs

theorem opd_congr {σ σ' : Nat → EV} {x : Opd} (h : ∀ t ∈ SO.looks.opdN x, σ t = σ' t) : x.ev σ = x.ev σ' := by
  cases x with
  | t n => exact h n (by simp [SO.looks.opdN])
  | c v => rfl
theorem opds_congr {σ σ' : Nat → EV} : ∀ {l : List Opd}, (∀ t ∈ l.flatMap SO.looks.opdN, σ t = σ' t) → l.map (·.ev σ) = l.map (·.ev σ')
  | [], _ => rfl
  | x :: l, h => by
    simp only [List.flatMap_cons, List.mem_append] at h
    simp only [List.map_cons]
    rw [opd_congr (fun t ht => h t (.inl ht)), opds_congr (fun t ht => h t (.inr ht))]
theorem parts_congr {σ σ' : Nat → EV} : ∀ {l : List (Nat × Nat × Opd)}, (∀ t ∈ l.flatMap (fun p => SO.looks.opdN p.2.2), σ t = σ' t) → partsEv σ l = partsEv σ' l
  | [], _ => rfl
  | x :: l, h => by
    simp only [List.flatMap_cons, List.mem_append] at h
    have := parts_congr (l := l) (fun t ht => h t (.inr ht))
    simp only [partsEv, List.map_cons] at this ⊢
    rw [opd_congr (fun t ht => h t (.inl ht)), this]
theorem opdO_congr {σ σ' : Nat → EV} {x : Option Opd} (h : ∀ t ∈ (match x with | some a => SO.looks.opdN a | none => []), σ t = σ' t) : x.map (·.ev σ) = x.map (·.ev σ') := by
  cases x with
  | none => rfl
  | some x => simp only [Option.map_some]; rw [opd_congr h]

/-- The same temporaries, the same operation. -/
theorem evOp_temps {call : CallF} {at_ : Nat} {o : SO} {σ σ' : Nat → EV} {h : List Row} (hσ : ∀ t ∈ o.looks, σ t = σ' t) : evOp call at_ o σ h = evOp call at_ o σ' h ∧ touch at_ o σ h = touch at_ o σ' h := by
  cases o <;> simp only [SO.looks, List.mem_append, or_imp, forall_and] at hσ <;> simp only [evOp, touch]
  case mv x => rw [opd_congr hσ]; exact ⟨rfl, by first | trivial | rfl⟩
  case pick a b c => rw [opd_congr hσ.1.1, opd_congr hσ.1.2, opd_congr hσ.2]; exact ⟨rfl, by first | trivial | rfl⟩
  case bin op ty x y => rw [opd_congr hσ.1, opd_congr hσ.2]; exact ⟨rfl, by first | trivial | rfl⟩
  case un op x => rw [opd_congr hσ]; exact ⟨rfl, by first | trivial | rfl⟩
  case conv k x => rw [opd_congr hσ]; exact ⟨rfl, by first | trivial | rfl⟩
  case build z ps => rw [parts_congr hσ]; exact ⟨rfl, by first | trivial | rfl⟩
  case field off m x => rw [opd_congr hσ]; exact ⟨rfl, by first | trivial | rfl⟩
  case fieldAddr off x => rw [opd_congr hσ]; exact ⟨rfl, by first | trivial | rfl⟩
  case idxA l s x i => rw [opd_congr hσ.1, opd_congr hσ.2]; exact ⟨rfl, by first | trivial | rfl⟩
  case idxS s x i => rw [opd_congr hσ.1, opd_congr hσ.2]; exact ⟨rfl, by first | trivial | rfl⟩
  case idxV l s ag x i => rw [opd_congr hσ.1, opd_congr hσ.2]; exact ⟨rfl, by first | trivial | rfl⟩
  case idxStr x i => rw [opd_congr hσ.1, opd_congr hσ.2]; exact ⟨rfl, by first | trivial | rfl⟩
  case extract x i => rw [opd_congr hσ]; exact ⟨rfl, by first | trivial | rfl⟩
  case nilck x => rw [opd_congr hσ]; exact ⟨rfl, by first | trivial | rfl⟩
  case slStr x lo hi => rw [opd_congr hσ.1.1, opdO_congr hσ.1.2, opdO_congr hσ.2]; exact ⟨rfl, by first | trivial | rfl⟩
  case slS s x lo hi => rw [opd_congr hσ.1.1, opdO_congr hσ.1.2, opdO_congr hσ.2]; exact ⟨rfl, by first | trivial | rfl⟩
  case slA m s x lo hi => rw [opd_congr hσ.1.1, opdO_congr hσ.1.2, opdO_congr hσ.2]; exact ⟨rfl, by first | trivial | rfl⟩
  case len k x => rw [opd_congr hσ]; exact ⟨rfl, by first | trivial | rfl⟩
  case mx m l => rw [opds_congr hσ]; exact ⟨rfl, by first | trivial | rfl⟩
  case callP f l => rw [opds_congr hσ]; exact ⟨rfl, by first | trivial | rfl⟩
  case mkfn f x y => rw [opds_congr hσ.1, opds_congr hσ.2]; exact ⟨rfl, by first | trivial | rfl⟩
  case alloc z => first | exact ⟨rfl, rfl⟩ | simp | trivial
  case box x => rw [opd_congr hσ]; exact ⟨rfl, by first | trivial | rfl⟩
  case bslice s l z ps => rw [parts_congr hσ]; exact ⟨rfl, by first | trivial | rfl⟩
  case bsliceF ks s l z ps => rw [parts_congr hσ]; exact ⟨rfl, by first | trivial | rfl⟩
  case mkslice s b z x y => rw [opd_congr hσ.1, opd_congr hσ.2]; exact ⟨rfl, by first | trivial | rfl⟩
  case load m x => rw [opd_congr hσ]; exact ⟨rfl, by first | trivial | rfl⟩
  case store m x y => rw [opd_congr hσ.1, opd_congr hσ.2]; exact ⟨rfl, by first | trivial | rfl⟩
  case app s b x y => rw [opd_congr hσ.1, opd_congr hσ.2]; exact ⟨rfl, by first | trivial | rfl⟩
  case copy s x y => rw [opd_congr hσ.1, opd_congr hσ.2]; exact ⟨rfl, by first | trivial | rfl⟩
  case toStr x => rw [opd_congr hσ]; exact ⟨rfl, by first | trivial | rfl⟩
  case call f l => rw [opds_congr hσ]; exact ⟨rfl, by first | trivial | rfl⟩
  case callB f b l => rw [opds_congr hσ]; exact ⟨rfl, by first | trivial | rfl⟩
  case callv g l => rw [opd_congr hσ.1, opds_congr hσ.2]; exact ⟨rfl, by first | trivial | rfl⟩

theorem slFirst_congr {h h' : List Row} {sz k : Nat} {x : EV} (hs : ∀ i ∈ ptrs x, h[i]? = h'[i]?) : slFirst h sz k x = slFirst h' sz k x := by
  unfold slFirst
  split
  · rfl
  · rename_i r o n z
    rw [hs r (by simp [ptrs])]
  · rfl
  · rfl

theorem fresh_congr {h h' : List Row} {i : Nat} (hs : h[i]? = h'[i]?) : fresh h i = fresh h' i := by unfold fresh; rw [hs]
theorem getRow_congr {h h' : List Row} {i : Nat} (hs : h[i]? = h'[i]?) : getRow h i = getRow h' i := by
  unfold getRow
  rw [List.getD_eq_getElem?_getD, List.getD_eq_getElem?_getD, hs]

theorem callAt_congr {call : CallF} {f : FuncId} {args : List EV} {h h' : List Row} (hs : ∀ i ∈ reach h reachFuel (ptrsL args) [], h[i]? = h'[i]?) (hl : h.length = h'.length) : callAt call f args h = callAt call f args h' := by
  unfold callAt
  rw [reach_congr _ _ _ hs]
  simp only [← hl]
  have hfr : (reach h reachFuel (ptrsL args) []).all (fun i => decide (i < h.length) && !fresh h i) = (reach h reachFuel (ptrsL args) []).all (fun i => decide (i < h.length) && !fresh h' i) := by
    rw [Bool.eq_iff_iff, List.all_eq_true, List.all_eq_true]
    constructor
    · intro hh i hi; rw [← fresh_congr (hs i hi)]; exact hh i hi
    · intro hh i hi; rw [fresh_congr (hs i hi)]; exact hh i hi
  rw [← hfr]
  have : (reach h reachFuel (ptrsL args) []).map (fun i => renRow (toMini (reach h reachFuel (ptrsL args) [])) (getRow h i)) = (reach h reachFuel (ptrsL args) []).map (fun i => renRow (toMini (reach h reachFuel (ptrsL args) [])) (getRow h' i)) :=
    List.map_congr_left fun i hi => by rw [getRow_congr (hs i hi)]
  rw [this]

theorem frzC_congr {h h' : List Row} {T : List Nat} {ks : List NK} {c : EV} (hs : ∀ i ∈ T, h[i]? = h'[i]?) : frzC h T ks c = frzC h' T ks c := by
  unfold frzC
  split
  · rename_i l
    have h1 : ((ptrsL l).all fun r => ownAgg h r && T.contains r) = ((ptrsL l).all fun r => ownAgg h' r && T.contains r) := by
      congr 1
      funext r
      by_cases hr : r ∈ T
      · unfold ownAgg; rw [hs r hr]
      · simp [hr]
    rw [h1]
    split
    · rename_i hc
      simp only [Bool.and_eq_true, List.all_eq_true] at hc
      rw [bCells_congr (h' := h') fun i hi => hs i (by simpa using (hc.2 i hi).2)]
    · rfl
  · rfl
theorem frzC_in {h : List Row} {T : List Nat} {ks : List NK} {c : EV} {x : EV × List Nat} (hx : frzC h T ks c = some x) : ∀ r ∈ x.2, r ∈ T := by
  unfold frzC at hx
  split at hx
  · split at hx
    · rename_i hc
      simp only [Bool.and_eq_true, List.all_eq_true] at hc
      simp only [Option.map_eq_some_iff] at hx
      obtain ⟨y, _, rfl⟩ := hx
      intro r hr
      simpa using (hc.2 r hr).2
    · cases hx
  · cases hx
    intro r hr; cases hr
theorem bArg_congr {h h' : List Row} {b : BK} {v : EV} (hs : ∀ i ∈ ptrs v, h[i]? = h'[i]?) : bArg h b v = bArg h' b v := by
  unfold bArg
  split <;> try rfl
  · rw [bCells_congr (h' := h') fun i hi => hs i (by simpa [ptrs] using hi)]
  · rw [bCell_congr hs]
theorem bArgs_congr {h h' : List Row} : ∀ {bs : List BK} {l : List EV}, (∀ i ∈ ptrsL l, h[i]? = h'[i]?) → bArgs h bs l = bArgs h' bs l
  | [], [], _ => rfl
  | b :: bs, v :: l, hs => by
    simp only [bArgs]
    rw [bArg_congr (h' := h') fun i hi => hs i (by simp [ptrsL, hi]), bArgs_congr (h' := h') fun i hi => hs i (by simp [ptrsL, hi])]
  | [], v :: l, _ => rfl
  | b :: bs, [], _ => rfl
theorem callBor_congr {call : CallF} {f : FuncId} {bs : List BK} {args : List EV} {h h' : List Row} (hs : ∀ i ∈ ptrsL args, h[i]? = h'[i]?) (hl : h.length = h'.length) : callBor call f bs args h = callBor call f bs args h' := by
  unfold callBor
  rw [bArgs_congr hs, hl]

/-- The same rows where it looks, the same operation. -/
theorem evOp_rows {call : CallF} {at_ : Nat} {o : SO} {σ : Nat → EV} {h h' : List Row} (hs : ∀ i ∈ touch at_ o σ h, h[i]? = h'[i]?) (hl : o.calls = false ∨ h.length = h'.length) : evOp call at_ o σ h = evOp call at_ o σ h' ∧ touch at_ o σ h = touch at_ o σ h' := by
  cases o <;> simp only [touch] at hs <;> simp only [evOp, touch, and_true]
  case slA m s x lo hi =>
    split
    · rename_i r o hr
      rw [hr] at hs
      rw [hs r (by simp [ptrs])]
    · rfl
  case load m x =>
    split
    · rename_i r o hr
      rw [hr] at hs
      rw [hs r (by simp [ptrs])]
    · rfl
    · rfl
  case store m x y =>
    split
    · rename_i r o hr
      rw [hr] at hs
      rw [hs r (by simp [ptrs])]
    · rfl
  case alloc z => rw [fresh_congr (hs at_ (by simp))]
  case box x => rw [fresh_congr (hs at_ (by simp))]
  case bslice s l z ps => rw [fresh_congr (hs at_ (by simp))]
  case bsliceF ks s l z ps =>
    rw [fresh_congr (hs at_ (by simp))]
    rw [show frzC h (partPtrs (partsEv σ ps)) ks = frzC h' (partPtrs (partsEv σ ps)) ks from funext fun c => frzC_congr fun i hi => hs i (by simp [hi])]
    have key : ∀ c, (frzC h' (partPtrs (partsEv σ ps)) ks c).map (frzEff h ks at_ l s) = (frzC h' (partPtrs (partsEv σ ps)) ks c).map (frzEff h' ks at_ l s) := by
      intro c
      cases hx : frzC h' (partPtrs (partsEv σ ps)) ks c with
      | none => rfl
      | some x =>
        have hin := frzC_in hx
        simp only [Option.map_some, frzEff]
        rw [show (x.2.map fun r => (r, frzRow h ks r)) = (x.2.map fun r => (r, frzRow h' ks r)) from List.map_congr_left fun r hr => by
          have : getRow h r = getRow h' r := getRow_congr (hs r (by simp [hin r hr]))
          unfold frzRow
          rw [this]]
    simp only [key]
  case mkslice s b z x y => rw [fresh_congr (hs at_ (by simp))]
  case app s b x y =>
    have h1 : slCells h s (y.ev σ) = slCells h' s (y.ev σ) := slFirst_congr (fun i hi => hs i (by simp [hi]))
    rw [fresh_congr (hs at_ (by simp)), h1]
    split
    · rfl
    · rename_i r o m z hr
      rw [hr] at hs
      rw [hs r (by simp [ptrs])]
    · rfl
  case copy s x y =>
    split
    · rename_i r o m z hr
      rw [hr] at hs
      rw [hs r (by simp [ptrs]), slFirst_congr (h := h) (h' := h') (fun i hi => hs i (by simp [hi]))]
    · rfl
    · rfl
  case toStr x =>
    split
    · rfl
    · rename_i r o m z hr
      rw [hr] at hs
      rw [hs r (by simp [ptrs])]
    · rfl
    · rfl
  case call f l =>
    simp only [SO.calls, Bool.true_eq_false, false_or] at hl
    exact ⟨callAt_congr hs hl, (reach_congr _ _ _ hs).symm⟩
  case callB f b l =>
    simp only [SO.calls, Bool.true_eq_false, false_or] at hl
    exact callBor_congr hs hl
  case callv g l =>
    simp only [SO.calls, Bool.true_eq_false, false_or] at hl
    split
    · rename_i f x y hg
      rw [hg] at hs
      exact ⟨callAt_congr hs hl, (reach_congr _ _ _ hs).symm⟩
    · exact ⟨rfl, rfl⟩

/-- What it writes is among what it touches; only calls lay new rows behind the others, or move. -/
theorem evOp_eff {call : CallF} {at_ : Nat} {o : SO} {σ : Nat → EV} {h : List Row} {e : Eff} (he : evOp call at_ o σ h = some e) :
    (∀ p ∈ e.upd, p.1 ∈ touch at_ o σ h) ∧ (o.writes = false → e.upd = []) ∧ (o.calls = false → e.news = [] ∧ e.mvs = []) := by
  have hcallAt : ∀ (f : FuncId) (args : List EV) (e : Eff), callAt call f args h = some e → ∀ p ∈ e.upd, p.1 ∈ reach h reachFuel (ptrsL args) [] := by
    intro f args e he p hp
    unfold callAt at he
    simp only at he
    split at he
    · split at he
      · simp at he
      · simp only [Option.some.injEq] at he
        subst he
        simp only [List.mem_map, List.mem_range] at hp
        obtain ⟨q, hq, rfl⟩ := hp
        have hg : (reach h reachFuel (ptrsL args) []).getD q 0 = (reach h reachFuel (ptrsL args) [])[q] := by simp [List.getD_eq_getElem?_getD, List.getElem?_eq_getElem hq]
        simp only
        rw [hg]
        exact List.getElem_mem hq
    · simp at he
  cases o <;> simp only [evOp] at he <;> simp only [touch, SO.writes, SO.calls]
  case store m x y =>
    split at he
    · rename_i r o hr
      rw [hr]
      split at he
      · split at he
        · simp only [Option.map_eq_some_iff] at he
          obtain ⟨c, _, rfl⟩ := he
          exact ⟨fun p hp => by simp at hp; simp [ptrs, hp], by simp, fun _ => ⟨rfl, rfl⟩⟩
        · simp at he
      · simp at he
    · simp at he
  case alloc z =>
    split at he
    · simp only [Option.some.injEq] at he; subst he
      exact ⟨fun p hp => by simp at hp; simp [hp], by simp, fun _ => ⟨rfl, rfl⟩⟩
    · simp at he
  case box x =>
    split at he
    · simp only [Option.some.injEq] at he; subst he
      exact ⟨fun p hp => by simp at hp; simp [hp], by simp, fun _ => ⟨rfl, rfl⟩⟩
    · simp at he
  case bslice s l z ps =>
    split at he
    · simp only [Option.map_eq_some_iff] at he
      obtain ⟨c, _, rfl⟩ := he
      exact ⟨fun p hp => by simp at hp; simp [hp], by simp, fun _ => ⟨rfl, rfl⟩⟩
    · simp at he
  case bsliceF ks s l z ps =>
    split at he
    · simp only [Option.bind_eq_some_iff, Option.map_eq_some_iff] at he
      obtain ⟨c, _, x, hx, rfl⟩ := he
      refine ⟨fun p hp => ?_, by simp, fun _ => ⟨rfl, rfl⟩⟩
      simp only [frzEff, List.mem_cons, List.mem_map] at hp
      rcases hp with rfl | ⟨r, hr, rfl⟩
      · simp
      · exact List.mem_cons_of_mem _ (frzC_in hx r hr)
    · simp at he
  case mkslice s b z x y =>
    split at he
    · split at he
      · simp only [Option.some.injEq] at he; subst he
        exact ⟨fun p hp => by simp at hp; simp [hp], by simp, fun _ => ⟨rfl, rfl⟩⟩
      · simp at he
    · simp at he
  case app s b x y =>
    refine ⟨?_, by simp, by simp⟩
    split at he
    · split at he
      · simp only [Option.map_eq_some_iff] at he
        obtain ⟨c, _, rfl⟩ := he
        simp
      · split at he
        · simp only [Option.map_eq_some_iff] at he
          obtain ⟨c, _, rfl⟩ := he
          intro p hp; simp at hp; simp [hp]
        · simp at he
    · rename_i r o m z hr
      split at he
      · split at he
        · split at he
          · simp only [Option.map_eq_some_iff] at he
            obtain ⟨c, _, rfl⟩ := he
            intro p hp
            simp at hp
            rw [hr]
            rcases hp with rfl | rfl <;> simp [ptrs]
          · simp at he
        · simp at he
      · simp at he
    · simp at he
  case copy s x y =>
    refine ⟨?_, by simp, ?_⟩
    · split at he
      · rename_i r o m z hr
        rw [hr]
        split at he
        · split at he
          · simp only [Option.some.injEq] at he; subst he; simp
          · split at he
            · split at he
              · simp only [Option.bind_eq_some_iff, Option.map_eq_some_iff] at he
                obtain ⟨c, _, c', _, rfl⟩ := he
                intro p hp; simp at hp; simp [ptrs, hp]
              · simp at he
            · simp at he
        · simp at he
      · split at he <;> simp at he <;> subst he <;> simp
      · simp at he
    · intro _
      split at he
      · split at he
        · split at he
          · simp only [Option.some.injEq] at he; subst he; exact ⟨rfl, rfl⟩
          · split at he
            · split at he
              · simp only [Option.bind_eq_some_iff, Option.map_eq_some_iff] at he
                obtain ⟨c, _, c', _, rfl⟩ := he
                exact ⟨rfl, rfl⟩
              · simp at he
            · simp at he
        · simp at he
      · split at he <;> simp at he <;> subst he <;> exact ⟨rfl, rfl⟩
      · simp at he
  case call f l => exact ⟨hcallAt _ _ _ he, by simp, by simp⟩
  case callB f b l =>
    unfold callBor at he
    split at he
    · cases he
    · split at he
      · split at he
        · split at he
          · simp only [Option.some.injEq] at he
            subst he
            exact ⟨by simp, by simp, by simp⟩
          · cases he
        · cases he
      · cases he
  case callv g l =>
    split at he
    · exact ⟨hcallAt _ _ _ he, by simp, by simp⟩
    · simp at he
  case slA m z x lo hi =>
    split at he
    · obtain ⟨b, _, he⟩ := Option.bind_eq_some_iff.1 he
      obtain ⟨c, _, he⟩ := Option.bind_eq_some_iff.1 he
      split at he
      · split at he
        · cases he; exact ⟨by simp, fun _ => rfl, fun _ => ⟨rfl, rfl⟩⟩
        · cases he
      · cases he
    · cases he
  case idxV l z ag x i =>
    obtain ⟨b, _, he⟩ := Option.bind_eq_some_iff.1 he
    split at he
    · obtain ⟨_, _, rfl⟩ := Option.map_eq_some_iff.1 he; exact ⟨by simp, fun _ => rfl, fun _ => ⟨rfl, rfl⟩⟩
    · obtain ⟨_, _, rfl⟩ := Option.map_eq_some_iff.1 he; exact ⟨by simp, fun _ => rfl, fun _ => ⟨rfl, rfl⟩⟩
  all_goals
    have hpure : e.upd = [] ∧ e.news = [] ∧ e.mvs = [] := by
      repeat' split at he
      all_goals first
        | (cases he; done)
        | (cases he; exact ⟨rfl, rfl, rfl⟩)
        | (obtain ⟨_, _, rfl⟩ := Option.map_eq_some_iff.1 he; exact ⟨rfl, rfl, rfl⟩)
        | (obtain ⟨_, _, he⟩ := Option.bind_eq_some_iff.1 he; obtain ⟨_, _, rfl⟩ := Option.map_eq_some_iff.1 he; exact ⟨rfl, rfl, rfl⟩)
        | (obtain ⟨_, _, he⟩ := Option.bind_eq_some_iff.1 he; obtain ⟨_, _, he⟩ := Option.bind_eq_some_iff.1 he; split at he <;> cases he; exact ⟨rfl, rfl, rfl⟩)
    exact ⟨by rw [hpure.1]; simp, fun _ => hpure.1, fun _ => hpure.2⟩
end Go.Sx
