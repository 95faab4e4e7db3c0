/-
  A range over a function: the rounds are turned rows. Conditions: none.
-/
import Derived.Test.YtmmfgbifbbiihaaSx1
namespace Go.Sx
open Go Go.RowKit
set_option linter.unusedVariables false
set_option linter.unusedSimpArgs false
set_option linter.unusedSectionVars false
section
variable {P : Program} {call : CallF} {ds : List Deferred} {n m : Nat} {ρ0 : RM} {w0 : World} {S : List Nat} {F : Fence} {k : Nat}

theorem fr_alloc (w : World) (o : Obj) : Fr w [] (w.alloc o) :=
  ⟨rfl, rfl, rfl, by simp, fun b hb _ => Below.heap_alloc w o b hb⟩
theorem HR.putO {ρ : RM} {h : List Row} {w : World} (hh : HR w0 S ρ h w) (hown : ∀ row ∈ h, row.own = true) {l : Nat} {o : Obj} (ho : w.heap[l]? = some o) (hc : o.isCells = false) (hl : w0.heap.size ≤ l) (o' : Obj) : HR w0 S ρ h (w.putObj l o') := by
  refine ⟨hh.out, fun i row hi => ?_, fun i L hL => by rw [World.putObj_size]; exact hh.lt i L hL, hh.own, hh.apart, ⟨hh.frame.os, hh.frame.tape, hh.frame.output, by rw [World.putObj_size]; exact hh.frame.size, fun b hb hs => (World.putObj_heap_other (by omega)).trans (hh.frame.block b hb hs)⟩⟩
  rcases hh.rows i row hi with h | ⟨L, hL, hR⟩
  · exact .inl h
  · refine .inr ⟨L, hL, hR.same (World.putObj_heap_other fun e => ?_)⟩
    obtain ⟨_, hR⟩ := hR
    rw [if_pos (hown row (List.mem_of_getElem? hi))] at hR
    obtain ⟨_, c, t, hcell, _⟩ := hR
    rw [e, ho] at hcell
    cases hcell
    cases hc
theorem Kept.put {K : List (Nat × Obj)} {w : World} (hk : Kept K w) {l : Nat} (hl : ∀ p ∈ K, p.1 ≠ l) (o' : Obj) : Kept K (w.putObj l o') :=
  fun p hp => ⟨(hk p hp).1, (World.putObj_heap_other (hl p hp)).trans (hk p hp).2⟩
theorem Kept.alloc {K : List (Nat × Obj)} {w : World} (hk : Kept K w) (o : Obj) : Kept K (w.alloc o) :=
  fun p hp => ⟨(hk p hp).1, (Below.heap_alloc w o p.1 (hk.lt hp)).trans (hk p hp).2⟩
theorem Kept.cons {K : List (Nat × Obj)} {w : World} (hk : Kept K w) {l : Nat} {o : Obj} (h1 : o.isCells = false) (h2 : w.heap[l]? = some o) : Kept ((l, o) :: K) w :=
  fun p hp => by
    rcases List.mem_cons.1 hp with rfl | hp
    · exact ⟨h1, h2⟩
    · exact hk p hp
theorem Kept.tail {K : List (Nat × Obj)} {w : World} {p : Nat × Obj} (hk : Kept (p :: K) w) : Kept K w := fun q hq => hk q (List.mem_cons_of_mem _ hq)
theorem Kept.head {K : List (Nat × Obj)} {w : World} {p : Nat × Obj} (hk : Kept (p :: K) w) : w.heap[p.1]? = some p.2 := (hk p (List.mem_cons_self ..)).2
theorem SR.put_obj {ρ : RM} {st : St} {a : Act} {w : World} (hr : SR ds n m ρ0 w0 S ρ st a w) (hown : ∀ row ∈ st.heap, row.own = true) {l : Nat} {o : Obj} (ho : w.heap[l]? = some o) (hc : o.isCells = false) (hl : w0.heap.size ≤ l) (o' : Obj) : SR ds n m ρ0 w0 S ρ st a (w.putObj l o') :=
  ⟨hr.keep, hr.pos, hr.long, hr.env, hr.heap.putO hown ho hc hl o', hr.size, hr.defers, hr.ms⟩

/-- After the rounds' own rows are forgotten. -/
theorem HR_take {ρ : RM} {st : St} {a : Act} {w : World} (hr : SR ds n m ρ0 w0 S ρ st a w) (hg : st.gone = []) (hrows : ∀ i, i < m → ∃ (row : Row) (kd : IntKind) (l : List Int), st.heap[i]? = some row ∧ row.c = .ints kd l) (hout : ∀ i, m ≤ i → ρ0 i = none) : HR w0 S ρ0 (st.heap.take m) w := by
  have hlen : m ≤ st.heap.length := hr.long
  have hlive : ∀ i, i < m → ∃ (row : Row) (kd : IntKind) (l : List Int) (L : Loc), st.heap[i]? = some row ∧ row.c = .ints kd l ∧ ρ i = some (some L) ∧ ρ0 i = some (some L) ∧ RowR ρ row L w := by
    intro i hi
    obtain ⟨row, kd, l, h1, h2⟩ := hrows i hi
    obtain ⟨L, hL, hR⟩ := hr.heap.live h1 (by rw [h2]; rfl)
    refine ⟨row, kd, l, L, h1, h2, hL, ?_, hR⟩
    rcases hr.keep i hi (by rw [hg]; simp) with e | e
    · rw [← e]; exact hL
    · rw [hL] at e; cases e
  have hsame : ∀ i, i < m → ρ0 i = ρ i := fun i hi => by
    obtain ⟨_, _, _, L, _, _, h1, h2, _⟩ := hlive i hi
    rw [h1, h2]
  have hlt : ∀ {i : Nat} {L : Loc}, ρ0 i = some (some L) → i < m := fun {i L} h => by
    rcases Nat.lt_or_ge i m with h' | h'
    · exact h'
    · rw [hout i h'] at h; cases h
  refine ⟨fun i hi => hout i ?_, fun i row hi => ?_, fun i L hL => ?_, fun i row L hi ho hL => ?_, fun i j ri Li Lj hi hne ho hLi hLj => ?_, hr.heap.frame⟩
  · rw [List.getElem?_eq_none_iff, List.length_take] at hi
    omega
  · have him : i < m := by
      have := (List.getElem?_eq_some_iff.1 hi).1
      rw [List.length_take] at this
      omega
    rw [List.getElem?_take_of_lt him] at hi
    obtain ⟨row', kd, l, L, h1, h2, _, h3, hz, hR⟩ := hlive i him
    rw [h1] at hi
    cases hi
    refine .inr ⟨L, h3, hz, ?_⟩
    have hcr : ∀ {get : Nat → Option Value}, CR ρ row.c get → CR ρ0 row.c get := by
      intro get hc
      refine ⟨hc.1, fun j e hj => ?_⟩
      obtain ⟨v, g1, g2, g3⟩ := hc.2 j e hj
      refine ⟨v, g1, g2, VR_free e v ?_ g3⟩
      rw [h2] at hj
      simp only [cget, Option.map_eq_some_iff] at hj
      obtain ⟨x, _, rfl⟩ := hj
      rfl
    split at hR
    · obtain ⟨hb, c, t, hc, hz2, hc2⟩ := hR
      rw [if_pos (by assumption)]
      exact ⟨hb, c, t, hc, hz2, hcr hc2⟩
    · rw [if_neg (by assumption)]
      exact hcr hR
  · have := hlt hL
    rw [hsame i this] at hL
    exact hr.heap.lt i L hL
  · have := hlt hL
    rw [List.getElem?_take_of_lt this] at hi
    rw [hsame i this] at hL
    exact hr.heap.own i row L hi ho hL
  · have hi' := hlt hLi
    have hj' := hlt hLj
    rw [List.getElem?_take_of_lt hi'] at hi
    rw [hsame i hi'] at hLi
    rw [hsame j hj'] at hLj
    exact hr.heap.apart i j ri Li Lj hi hne ho hLi hLj

/-- Where no row has come or gone, the places are the ones at the entry. -/
theorem SR_same {ρ : RM} {st : St} {a : Act} {w : World} (hr : SR ds n m ρ0 w0 S ρ st a w) (hg : st.gone = []) (hl : st.heap.length = m) (hrows : ∀ i, i < m → ∃ (row : Row) (kd : IntKind) (l : List Int), st.heap[i]? = some row ∧ row.c = .ints kd l) (hout : ∀ i, m ≤ i → ρ0 i = none) : ρ = ρ0 := by
  funext i
  rcases Nat.lt_or_ge i m with h | h
  · obtain ⟨row, kd, l, h1, h2⟩ := hrows i h
    obtain ⟨L, hL, _⟩ := hr.heap.live h1 (by rw [h2]; rfl)
    rcases hr.keep i h (by rw [hg]; simp) with e | e
    · exact e
    · rw [hL] at e; cases e
  · rw [hout i h]
    exact hr.heap.out i (List.getElem?_eq_none (by omega))
theorem range_ok {α : Type} {g : Operand} {ps : Array Tmp} {assign body : Code} {Q : Exit → Act → World → Prop} {a : Act} {W : World} {gf : Nat} {lb : Array Value} {K : List (Nat × Obj)} {ρ : RM}
    (hg : a.eval g = .func (.func gf) #[] lb) (eg : ∀ args w, (callFunc gf args).run P w = .ok (.enter gf args) w)
    (encs : α → Array Value) (hps : ∀ x, (encs x).size = ps.size) (xs : List α) (rows : List α → List Row) (hown : ∀ pre, ∀ row ∈ rows pre, row.own = true)
    (h0 : HR w0 S ρ (rows []) W) (hk : Kept K W) (st1 : List α → α → St)
    (hassign : ∀ (l : Nat) (K' : List (Nat × Obj)) (pre : List α) (x : α) (post : List α) (W1 : World), xs = pre ++ x :: post → HR w0 S ρ (rows pre) W1 → Kept K' W1 →
      assign.wpIn (Fence.wide.inRound l) 0 P (Exit.then (fun a1 W2 => (∃ ρ1, SR [] n m ρ w0 S ρ1 (st1 pre x) a1 W2) ∧ Kept K' W2) (fun _ _ _ => False)) { tmps := (ps.zip (encs x)).foldl (fun t (p, v) => t.setIfInBounds p v) a.tmps, defers := [] } W1)
    (hrows1 : ∀ pre x, ∀ row ∈ (st1 pre x).heap, row.own = true)
    (hbody : ∀ (l : Nat) (K' : List (Nat × Obj)) (pre : List α) (x : α) (post : List α) (W1 : World) (a1 : Act) (ρ1 : RM), xs = pre ++ x :: post → SR [] n m ρ w0 S ρ1 (st1 pre x) a1 W1 → Kept K' W1 →
      body.wpIn (Fence.wide.inRound l) 0 P (fun e a' W' => e = .normal ∧ HR w0 S ρ (rows (pre ++ [x])) W' ∧ Kept K' W') a1 W1)
    (hiter : ∀ (l : Nat) (K' : List (Nat × Obj)) (W1 : World), HR w0 S ρ (rows []) W1 → Kept K' W1 →
      (∀ (pre : List α) (x : α) (post : List α) (W2 : World), xs = pre ++ x :: post → HR w0 S ρ (rows pre) W2 → Kept K' W2 → YieldAt Fence.wide 0 P l (encs x) W2 fun e W3 => e = .returned (.bool true) ∧ HR w0 S ρ (rows (pre ++ [x])) W3 ∧ Kept K' W3) →
      CallsIn Fence.wide 0 P gf (#[.func (.yield l) #[] #[]] ++ lb) W1 fun e W2 => (∃ v, e = .returned v) ∧ HR w0 S ρ (rows xs) W2 ∧ Kept K' W2)
    (hdone : ∀ (D : Nat) (W1 : World), w0.heap.size ≤ D → (∀ p ∈ K, p.1 ≠ D) → HR w0 S ρ (rows xs) W1 → Kept ((D, .deferred (some [])) :: K) W1 → Q .normal { a with defers := { target := .collected D, args := #[] } :: a.defers } W1) :
    (Code.rangeFunc g ps assign body).wpIn Fence.wide 0 P Q a W := by
  refine wpIn_rangeFunc ?_
  intro fn hfn
  obtain ⟨rec, hrec⟩ : ∃ rec : LoopState → Option Code → Loop, rec = fun st pe => { state := st, pending := pe, fn, tmps := a.tmps, params := ps, assign, body, defers := W.heap.size } := ⟨_, rfl⟩
  obtain ⟨W1, hW1⟩ : ∃ W1, (W.alloc (.deferred (some []))).alloc (.loop (rec .ready none)) = W1 := ⟨_, rfl⟩
  have hbase := h0.frame.size
  have hL1 : W1.heap[W.heap.size + 1]? = some (.loop (rec .ready none)) := by
    rw [← hW1]; have := World.alloc_heap_new (W.alloc (.deferred (some []))) (.loop (rec .ready none)); rwa [World.size_alloc] at this
  have hD1 : W1.heap[W.heap.size]? = some (.deferred (some [])) := by
    rw [← hW1]; exact (Below.heap_alloc _ _ _ (by simp)).trans (World.alloc_heap_new W _)
  have hH1 : HR w0 S ρ (rows []) W1 := by rw [← hW1]; exact (h0.fr (fr_alloc _ _)).fr (fr_alloc _ _)
  have hK1 : Kept ((W.heap.size + 1, .loop (rec .ready none)) :: (W.heap.size, .deferred (some [])) :: K) W1 := by
    refine Kept.cons (Kept.cons ?_ rfl hD1) rfl hL1
    rw [← hW1]; exact (hk.alloc _).alloc _
  have hne : ∀ p ∈ ((W.heap.size, .deferred (some [])) :: K : List (Nat × Obj)), p.1 ≠ W.heap.size + 1 := by
    intro p hp
    rcases List.mem_cons.1 hp with rfl | hp
    · show W.heap.size ≠ _; omega
    · have := hk.lt hp; omega
  refine ⟨W.heap.size + 1, [{ target := .collected W.heap.size, args := #[] }], W1, { target := .fn (.func gf) lb, args := #[.func (.yield (W.heap.size + 1)) #[] #[]] }, W1, gf,
    #[.func (.yield (W.heap.size + 1)) #[] #[]] ++ lb, W1, ?_, ?_, ?_, ?_, (fun h => by cases h), ?_⟩
  · rw [← hW1, hrec]; exact run_enterLoop_outer _ _ _ _ _
  · simp only [resolve, hg]
    simp [go_sem]
  · intro f' _; exact trivial
  · simp [invoke, go_sem, eg]
  · refine (hiter (W.heap.size + 1) _ W1 hH1 hK1 ?_).mono ?_
    · intro pre x post W2 hxs hH2 hK2
      have hl2 : W2.heap[W.heap.size + 1]? = some (.loop (rec .ready none)) := hK2.head
      have hy := run_yield (P := P) (args := encs x) hl2 (by rw [hrec]; exact hps x)
      rw [hrec] at hy
      refine ⟨fn, _, assign, body, hy, roundIn_of_wpIn hfn (wpIn_mono (hassign _ _ pre x post W2 hxs hH2 hK2) ?_)⟩
      intro e a1 W3 hp
      cases e with
      | normal =>
        obtain ⟨⟨ρ1, hS3⟩, hK3⟩ := hp
        have hl3 : W3.heap[W.heap.size + 1]? = some (.loop (rec .ready none)) := hK3.head
        refine ⟨_, run_beginRound hl3 (by rw [hrec]), ?_⟩
        have hS4 := hS3.put_obj (hrows1 pre x) hl3 rfl (by omega) (.loop { rec .ready none with state := .busy })
        have hK4 : Kept ((W.heap.size + 1, .loop { rec .ready none with state := .busy }) :: (W.heap.size, .deferred (some [])) :: K) (W3.putObj (W.heap.size + 1) (.loop { rec .ready none with state := .busy })) :=
          Kept.cons (hK3.tail.put hne _) rfl (World.putObj_heap_same (Array.getElem?_eq_some_iff.1 hl3).1)
        refine wpIn_mono (hbody _ _ pre x post _ a1 ρ1 hxs hS4 hK4) ?_
        rintro e a' W5 ⟨rfl, hH5, hK5⟩
        have hl5 : W5.heap[W.heap.size + 1]? = some (.loop { rec .ready none with state := .busy }) := hK5.head
        have he := run_endRound (P := P) none hl5
        refine ⟨_, _, he, rfl, hH5.putO (hown _) hl5 rfl (by omega) _, ?_⟩
        refine Kept.cons (hK5.tail.put hne _) rfl ?_
        rw [World.putObj_heap_same (Array.getElem?_eq_some_iff.1 hl5).1, hrec]
        rfl
      | ret => exact hp.elim
      | exit id => exact hp.elim
      | goto t => exact hp.elim
      | panic ch => exact hp.elim
      | outgrown => exact hp.elim
    · rintro e W2 ⟨⟨v, rfl⟩, hH2, hK2⟩
      have hl2 : W2.heap[W.heap.size + 1]? = some (.loop (rec .ready none)) := hK2.head
      have he := run_endLoop (P := P) hl2 (by rw [hrec]; simp)
      rw [hrec] at he
      refine ⟨none, _, he, ?_⟩
      exact hdone _ _ hbase (fun p hp => by have := hk.lt hp; omega) (hH2.putO (hown _) hl2 rfl (by omega) _) (hK2.tail.put hne _)

/-- Marks among the deferred calls. -/
theorem leaves_marks {fn : Func} {tmps : Array Value} {R : Ending → World → Prop} : ∀ (Ds : List Nat) (w : World), Kept (Ds.map fun D => (D, .deferred (some []))) w → Ds.Nodup →
    (∀ w' : World, (∀ b, b ∉ Ds → w'.heap[b]? = w.heap[b]?) → w'.heap.size = w.heap.size → w'.os = w.os → w'.tape = w.tape → w'.output = w.output → ∃ v, (results fn tmps).run P w' = .ok v w' ∧ R (.returned v) w') →
    LeavesInM Fence.wide k P fn tmps R (Ds.map fun D => { target := .collected D, args := #[] }) .returning w
  | [], w, _, _, h => h w (fun _ _ => rfl) rfl rfl rfl rfl
  | D :: Ds, w, hk, hn, h => by
    rw [List.nodup_cons] at hn
    refine ⟨by simp, .inl ⟨D, _, rfl, run_takeDeferred (hk.head), ?_⟩⟩
    refine leaves_marks Ds _ (hk.tail.put (fun p hp => ?_) _) hn.2 fun w' h1 h2 h3 h4 h5 => h w' (fun b hb => ?_) (h2.trans World.putObj_size) h3 h4 h5
    · obtain ⟨D', hD', rfl⟩ := List.mem_map.1 hp
      exact fun e => hn.1 (e ▸ hD')
    · rw [List.mem_cons, not_or] at hb
      exact (h1 b hb.2).trans (World.putObj_heap_other hb.1)
/-- A loop whose rounds are counted. -/
theorem loop_ix {c : Code} {Q : Exit → Act → World → Prop} {I : Nat → Act → World → Prop} {N : Nat} (round : ∀ (i : Nat) (a : Act) (w : World), i ≤ N → I i a w → c.wpIn F k P (Exit.then (fun a' w' => i < N ∧ I (i + 1) a' w') Q) a w) : ∀ (j i : Nat) (a : Act) (w : World), i + j = N → I i a w → Code.roundsIn F k P c Q (j + 1) a w
  | 0, i, a, w, h, hI => by
    refine wpIn_mono (round i a w (by omega) hI) fun e a' w' hp => ?_
    cases e with
    | normal => exact absurd hp.1 (by omega)
    | exit id => exact hp
    | goto l => exact hp
    | ret => exact hp
    | panic ch => exact hp
    | outgrown => exact hp
  | j + 1, i, a, w, h, hI => by
    refine wpIn_mono (round i a w (by omega) hI) fun e a' w' hp => ?_
    cases e with
    | normal => exact loop_ix round j (i + 1) a' w' (by omega) hp.2
    | exit id => exact hp
    | goto l => exact hp
    | ret => exact hp
    | panic ch => exact hp
    | outgrown => exact hp
theorem wpIn_loop_ix {c : Code} {Q : Exit → Act → World → Prop} {a : Act} {w : World} (I : Nat → Act → World → Prop) (N : Nat) (h0 : I 0 a w) (round : ∀ (i : Nat) (a : Act) (w : World), i ≤ N → I i a w → c.wpIn F k P (Exit.then (fun a' w' => i < N ∧ I (i + 1) a' w') Q) a w) : (Code.loop c).wpIn F k P Q a w :=
  wpIn_loop_rounds (N + 1) (loop_ix round N 0 a w (by omega) h0)
theorem SR.fresh {ρ : RM} {st : St} {a : Act} {w : World} (hr : SR ds n m ρ0 w0 S ρ st a w) (own : List Nat) : SR ds n m ρ0 w0 S ρ { st with env := st.env ++ own.map fun t => (t, .unk) } a w :=
  ⟨hr.keep, hr.pos, hr.long, fun t => by simp only [lk_fresh]; exact hr.env t, hr.heap, hr.size, hr.defers, hr.ms⟩
theorem SR.first {ρ : RM} {st : St} {a : Act} {w : World} (hr : SR ds n m ρ0 w0 S ρ st a w) (j : Nat) : SR ds n m ρ0 w0 S ρ { st with env := st.env.take j } a w :=
  ⟨hr.keep, hr.pos, hr.long, fun t => by
    rcases lk_take j st.env t with h | h
    · simp only [h]; exact hr.env t
    · simp only [h, VR], hr.heap, hr.size, hr.defers, hr.ms⟩
/-- Another heap under the same places. -/
theorem SR.turn {ρ : RM} {st : St} {a : Act} {w w' : World} (hr : SR ds n m ρ0 w0 S ρ st a w) {h' : List Row} (hl : m ≤ h'.length) (hh : HR w0 S ρ h' w') : SR ds n m ρ0 w0 S ρ { st with heap := h' } a w' :=
  ⟨hr.keep, hr.pos, hl, hr.env, hh, hr.size, hr.defers, hr.ms⟩
theorem SR.set {ρ : RM} {st : St} {a : Act} {w : World} (hr : SR ds n m ρ0 w0 S ρ st a w) {d : Nat} (hd : d < n) {e : EV} {v : Value} (hv : VR ρ e v) : SR ds n m ρ0 w0 S ρ { st with env := up st.env d e } (a.put (some d) v) w :=
  by
    have h := SR.put (d := some d) (e := { v := e }) hr (le_refl _) hv (fun t h => by cases h; exact hd) (by simpa using hr.heap)
    simpa [applyEff] using h
/-- A function's entry. -/
theorem SR_start {np : Nat} {vars : List Nat} {args : List EV} {h : List Row} {ρ : RM} {w : World} {vs : List Value} (hh : HR w0 S ρ h w) (hpos : ∀ i, i < h.length → ρ i ≠ none) (hargs : VRs ρ args vs) (hnp : args.length = np) (hsz : np ≤ n) :
    SR [] n h.length ρ w0 S ρ { env := vars.map fun t => (t, if t < np then args.getD t .unk else .unk), heap := h, m := h.length } { tmps := vs.toArray ++ Array.replicate (n - vs.toArray.size) undef, defers := [] } w := by
  have hvl := VRs_length hargs
  refine ⟨fun i hi _ => .inl rfl, hpos, Nat.le_refl _, fun t => ?_, hh, by simp; omega, rfl, rfl⟩
  have hlk : lk (vars.map fun t => (t, if t < np then args.getD t .unk else .unk)) t = (if t < np then args.getD t .unk else .unk) ∨ lk (vars.map fun t => (t, if t < np then args.getD t .unk else .unk)) t = .unk := by
    induction vars with
    | nil => exact .inr rfl
    | cons v vars ih =>
      simp only [List.map_cons, lk_cons]
      by_cases h : t = v
      · subst h; rw [if_pos rfl]; exact .inl rfl
      · rw [if_neg h]; exact ih
  rcases hlk with hlk | hlk
  · simp only
    rw [hlk]
    split
    · by_cases hta : t < args.length
      · obtain ⟨v, hv, hvr⟩ := VRs_get hargs t args[t] (List.getElem?_eq_getElem hta)
        have h1 : args.getD t .unk = args[t] := by simp [List.getD_eq_getElem?_getD, List.getElem?_eq_getElem hta]
        rw [h1]
        have h2 : (vs.toArray ++ Array.replicate (n - vs.toArray.size) undef).getD t undef = v := by
          have htv : t < vs.length := by omega
          rw [Array.getD_eq_getD_getElem?, Array.getElem?_append_left (by simpa using htv)]
          simp [hv]
        rw [h2]
        exact hvr
      · have h1 : args.getD t .unk = .unk := by simp [List.getD_eq_getElem?_getD, List.getElem?_eq_none (Nat.le_of_not_lt hta)]
        rw [h1]; simp [VR]
    · simp [VR]
  · simp only
    rw [hlk]; simp [VR]
/-- Marks that are struck off change no row. -/
theorem HR.marks {ρ : RM} {h : List Row} {w w' : World} {Ds : List Nat} (hh : HR w0 S ρ h w) (hown : ∀ row ∈ h, row.own = true) (hk : Kept (Ds.map fun D => (D, .deferred (some []))) w) (hge : ∀ D ∈ Ds, w0.heap.size ≤ D)
    (h1 : ∀ b, b ∉ Ds → w'.heap[b]? = w.heap[b]?) (h2 : w'.heap.size = w.heap.size) (h3 : w'.os = w.os) (h4 : w'.tape = w.tape) (h5 : w'.output = w.output) : HR w0 S ρ h w' := by
  refine ⟨hh.out, fun i row hi => ?_, fun i L hL => by rw [h2]; exact hh.lt i L hL, hh.own, hh.apart, ⟨h3.trans hh.frame.os, h4.trans hh.frame.tape, h5.trans hh.frame.output, by rw [h2]; exact hh.frame.size, fun b hb hs => (h1 b fun hm => ?_).trans (hh.frame.block b hb hs)⟩⟩
  · rcases hh.rows i row hi with h | ⟨L, hL, hR⟩
    · exact .inl h
    · refine .inr ⟨L, hL, hR.same (h1 _ fun hm => ?_)⟩
      obtain ⟨_, hR⟩ := hR
      rw [if_pos (hown row (List.mem_of_getElem? hi))] at hR
      obtain ⟨_, c, t, hcell, _⟩ := hR
      have hd := (hk _ (List.mem_map.2 ⟨L.block, hm, rfl⟩)).2
      rw [hcell] at hd
      cases hd
  · have := hge b hm
    omega
/-- A function's results, read off the frame. -/
theorem results_ok {fn : Func} {ρ : RM} {st : St} {a : Act} {w : World} {ss : List SRes} {l : List EV} (hr : SR ds n m ρ0 w0 S ρ st a w) (hc : cRes P fn.results.toList = some ss) (hl : resAll st ss = some l) : ∃ v, (results fn a.tmps).run P w = .ok v w ∧ VR ρ (packRes l) v := by
  obtain ⟨vs, hrun, hvs⟩ := res_ok hr _ _ l hc hl
  refine ⟨_, ?_, pack_ok hvs⟩
  simp only [results, Sem.run_bind]
  rw [Array.mapM_eq_mapM_toList]
  simp only [Sem.run_map, Sem.run_pure]
  exact congrArg (fun r : Result (List Value) => ((r.andThen fun a w' => Result.ok a.toArray w').andThen fun a w' => Result.ok (if h : a.size = 1 then a[0] else Value.tuple a) w')) hrun
/-- The operations of two lists. -/
theorem runOps_append {base : Nat} : ∀ (x y : List SOp) (st : St), runOps call base (x ++ y) st = (runOps call base x st).bind (runOps call base y)
  | [], y, st => rfl
  | o :: x, y, st => by
    simp only [List.cons_append, runOps]
    cases stepOp call base o st with
    | none => rfl
    | some s => exact runOps_append x y s
/-- A region that holds one call of a pure function, behind its first c operations. -/
theorem reg_call {q : Reg} {st s1 st' : St} {c d : Nat} {f : FuncId} {args : List Opd} {A : List EV} {v : EV} (hp : q.pairs = []) (ht : q.tidy = false) (hops : q.ops = q.ops.take c ++ ⟨some d, .callP f args, none, 0⟩ :: q.ops.drop (c + 1))
    (h1 : runOps call st.heap.length (q.ops.take c) { st with env := st.env ++ q.own.map fun t => (t, .unk), heap := st.heap ++ List.replicate q.slots ⟨false, .unk⟩ } = some s1)
    (ha : args.map (·.ev (lk s1.env)) = A) (h2 : ptrsL A = []) (h3 : call f A [] = some (v, [], []))
    (h4 : (runOps call st.heap.length (q.ops.drop (c + 1)) (applyEff s1 (some d) { v := v })).map (fun s => { s with env := s.env.take st.env.length }) = some st') : runReg call q st = some st' := by
  obtain ⟨s2, h5, h6⟩ := Option.map_eq_some_iff.1 h4
  have hrun : runOps call st.heap.length q.ops { st with env := st.env ++ q.own.map fun t => (t, .unk), heap := st.heap ++ List.replicate q.slots ⟨false, .unk⟩ } = some s2 := by
    rw [hops, runOps_append, h1]
    simp only [Option.bind_some, runOps, stepOp, stepEff, evOp, ha, h2, h3, Option.map_some]
    exact h5
  unfold runReg
  rw [hp, ht]
  simp only [hrun, Option.bind_some]
  simpa using h6
/-- A call of a function that is entered. -/
theorem enters_it {f : FuncId} {fn : Func} {c : Code} (hf : P.funcs[f]? = some fn) (hname : (fn.name == "runtime.NumGoroutine") = false) (hb : fn.body = some c) (args : Array Value) (w : World) : (callFunc f args).run P w = .ok (.enter f args) w := by
  have h1 : fn.name ≠ "runtime.NumGoroutine" := by simpa using hname
  simp [callFunc, hf, h1, hb]
end
/-! ### The regions of a function, by their numbers -/
def regionOps (id : Nat) : Code → Option (Array Oper)
  | .region i ops _ => if i = id then some ops else none
  | .seq a b => match regionOps id a with | some o => some o | none => regionOps id b
  | .cond _ a b => match regionOps id a with | some o => some o | none => regionOps id b
  | .block _ a => regionOps id a
  | .loop a => regionOps id a
  | .scope a => regionOps id a
  | .rangeFunc _ _ a b => match regionOps id a with | some o => some o | none => regionOps id b
  | _ => none
def funOps (f : Func) (id : Nat) : Array Oper := match f.body with
  | some c => match regionOps id c with | some o => o | none => #[]
  | none => #[]
end Go.Sx
