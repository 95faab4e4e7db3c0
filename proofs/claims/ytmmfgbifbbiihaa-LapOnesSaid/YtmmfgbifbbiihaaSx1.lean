/-
  Code inside the rounds of a range over a function: the abstract machine's word in the fenced form, with blocks that are kept. Conditions: none.
-/
import Derived.Test.YtmmfgbifbbiihaaSxS
import Derived.RangeFuncLeaves
import Derived.RangeFuncSeq
import Derived.RangeFuncRecord
import Derived.RangeFuncIn
import Derived.LoopNIn
import Derived.RangeFuncOwn
namespace Go.Sx
open Go Go.RowKit
set_option linter.unusedVariables false
set_option linter.unusedSimpArgs false
set_option linter.unusedSectionVars false

/-- The wide fence, in a round or in none. -/
def Wide (F : Fence) : Prop := ∃ ro, F = { Fence.wide with round := ro }
theorem Wide.wide : Wide Fence.wide := ⟨none, rfl⟩
theorem Wide.inRound (l : Nat) : Wide (Fence.wide.inRound l) := ⟨some l, rfl⟩
theorem Wide.calls {F : Fence} {k : Nat} {P : Program} {f : FuncId} {args : Array Value} {w : World} {R : Ending → World → Prop} (hF : Wide F) (h : Calls P f args w R) : CallsIn F k P f args w R := by
  obtain ⟨ro, rfl⟩ := hF
  exact (callsIn_wide (n := k)).2 h
theorem Wide.rows {F : Fence} {k : Nat} {P : Program} {row : String} {args : Array Value} {w : World} {R : Value → World → Prop} (hF : Wide F) (h : Rows P row args w R) : RowsIn F k P row args w R := by
  obtain ⟨ro, rfl⟩ := hF
  intro c cs _
  obtain ⟨v, w', r, s⟩ := h c cs
  exact ⟨v, w', r, stepsIn_wide.2 s⟩
theorem Wide.fn {F : Fence} (hF : Wide F) (f : FuncId) : F.fn f := by obtain ⟨ro, rfl⟩ := hF; exact trivial
theorem Wide.deep {F : Fence} (hF : Wide F) {p : Prop} : F.depth.isSome = true → p := by
  obtain ⟨ro, rfl⟩ := hF
  intro h
  cases h

section
variable {P : Program} {F : Fence} {k : Nat} {Q : Exit → Act → World → Prop}
theorem upon_in (hF : Wide F) {o : Oper} {a : Act} {next next' : Act → World → Prop} (hn : ∀ a w, next a w → next' a w) (r : Result Next) (h : o.upon P a next Q r) : o.uponIn F k P a next' Q r := by
  unfold Oper.upon at h
  split at h
  · exact hn _ _ h
  · exact hn _ _ h
  · exact hn _ _ h
  · refine ⟨hF.deep, hF.calls (h.mono fun e w' he => ?_)⟩
    cases e with
    | returned v => exact hn _ _ he
    | panicked ch => exact he
    | outgrown => exact he
  · exact ⟨hF.deep, hF.rows (h.mono fun v w' he => hn _ _ he)⟩
  · exact h
  · exact h.elim
theorem ops_in (hF : Wide F) {ops : Array Oper} (hQ : ¬ LetsOut Q) (hd : ∀ (i : Nat) (o : Oper), ops[i]? = some o → ∀ c, o.op ≠ .defer c) : ∀ (l : List Nat) (a : Act) (w : World), wpOps P ops Q l a w → wpOpsIn F k P ops Q l a w
  | [], a, w, h => h
  | i :: l, a, w, h => by
    unfold wpOps at h
    unfold wpOpsIn
    cases ho : ops[i]? with
    | none =>
      rw [ho] at h
      exact ops_in hF hQ hd l a w h
    | some o =>
      rw [ho] at h
      simp only at h ⊢
      by_cases hw : Region.wanted o (yielded ops a.tmps) = true
      · rw [if_pos hw] at h
        rw [if_pos hw]
        rcases h with h | ⟨_, h⟩
        · refine ⟨fun f _ => hF.fn f, ?_⟩
          rw [Oper.semAt_eq _ _ _ (hd i o ho)]
          exact upon_in hF (fun a w => ops_in hF hQ hd l a w) _ h
        · exact absurd h hQ
      · rw [if_neg hw] at h
        rw [if_neg hw]
        exact ⟨fun f _ => hF.fn f, ops_in hF hQ hd l _ w h⟩
end

section
variable {P : Program} {call : CallF} {ds : List Deferred} {n m : Nat} {ρ0 : RM} {w0 : World} {S : List Nat} {F : Fence} {k : Nat}

theorem cReg_calm {vars : List Nat} {ops : Array Oper} {draw : Bool} {r : Reg} (hc : cReg P n vars ops draw = some r) : ∀ (i : Nat) (o : Oper), ops[i]? = some o → ∀ c, o.op ≠ .defer c := by
  intro i o ho c hd
  unfold cReg at hc
  split at hc
  · cases hc
  · rename_i l hl
    obtain ⟨hlen, hrel⟩ := cOps_spec hl
    have hi : i < l.length := by
      have := (Array.getElem?_eq_some_iff.1 ho).1
      simp at hlen
      omega
    have := (hrel i o l[i] (by simpa using ho) (List.getElem?_eq_getElem hi)).1
    rw [hd] at this
    simp [cOp] at this

/-- A region, in whatever fence that is wide. -/
theorem region_in (hF : Wide F) {vars : List Nat} {ops : Array Oper} {draw : Bool} {r : Reg} {id : Nat} {st st' : St} {ρ : RM} {a : Act} {w : World} {Q : Exit → Act → World → Prop} (hc : cReg P n vars ops draw = some r) (hcall : CallOk P call)
    (hcan : ∀ f args h r, call f args h = some r → callable P f = true) (hrun : runReg call r st = some st') (hr : SR ds n m ρ0 w0 S ρ st a w) (hQ : ∀ a' w' ρ', SR ds n m ρ0 w0 S ρ' st' a' w' → Q .normal a' w') :
    (Code.region id ops draw).wpIn F k P Q a w := by
  have hcalm := cReg_calm hc
  have h := region_ops (Q := fun e a w => e = .normal ∧ Q .normal a w) hc hcall hcan hrun hr (fun a' w' ρ' hr' => ⟨rfl, hQ a' w' ρ' hr'⟩)
  have hl : ¬ LetsOut fun e a w => e = .normal ∧ Q .normal a w := fun ⟨_, _, h, _⟩ => by cases h
  refine wpIn_mono (Q := fun e a w => e = .normal ∧ Q .normal a w) ?_ (fun e a w ⟨he, hq⟩ => by subst he; exact hq)
  cases draw with
  | false => exact wpIn_region (ops_in hF hl hcalm _ _ _ (h.1 rfl))
  | true => exact wpIn_region_draw fun t => ops_in hF hl hcalm _ _ _ (h.2 rfl t)

/-! ### Blocks that hold no cells are kept -/
def Kept (K : List (Nat × Obj)) (W : World) : Prop := ∀ p ∈ K, p.2.isCells = false ∧ W.heap[p.1]? = some p.2
theorem Kept.lt {K : List (Nat × Obj)} {W : World} (h : Kept K W) {p : Nat × Obj} (hp : p ∈ K) : p.1 < W.heap.size := (Array.getElem?_eq_some_iff.1 (h p hp).2).1
theorem Kept.nil (W : World) : Kept [] W := fun p hp => by cases hp

def ownBlocks (ρ : RM) (h : List Row) : List Nat := (List.range h.length).filterMap fun i => match h[i]?, ρ i with
  | some row, some (some L) => if row.own then some L.block else none
  | _, _ => none
theorem mem_ownBlocks {ρ : RM} {h : List Row} {b : Nat} : b ∈ ownBlocks ρ h ↔ ∃ (i : Nat) (row : Row) (L : Loc), h[i]? = some row ∧ row.own = true ∧ ρ i = some (some L) ∧ L.block = b := by
  unfold ownBlocks
  rw [List.mem_filterMap]
  constructor
  · rintro ⟨i, hi, hx⟩
    split at hx
    · rename_i row L h1 h2
      split at hx
      · rename_i ho
        cases hx
        exact ⟨i, row, L, h1, ho, h2, rfl⟩
      · cases hx
    · cases hx
  · rintro ⟨i, row, L, h1, ho, h2, hb⟩
    refine ⟨i, List.mem_range.2 (List.getElem?_eq_some_iff.1 h1).1, ?_⟩
    rw [h1, h2]
    simp [ho, hb]

theorem HR.rebase {ρ : RM} {h : List Row} {w : World} (hh : HR w0 S ρ h w) : HR w (ownBlocks ρ h) ρ h w :=
  ⟨hh.out, hh.rows, hh.lt, fun i row L h1 h2 h3 => .inl (mem_ownBlocks.2 ⟨i, row, L, h1, h2, h3, rfl⟩), hh.apart, Fr.refl _ _⟩
theorem HR.unbase {ρ ρ' : RM} {h h' : List Row} {w w' : World} (hh : HR w0 S ρ h w) (hh' : HR w (ownBlocks ρ h) ρ' h' w') : HR w0 S ρ' h' w' := by
  have hown : ∀ b, b ∈ ownBlocks ρ h → b ∈ S ∨ w0.heap.size ≤ b := by
    intro b hb
    obtain ⟨i, row, L, h1, h2, h3, rfl⟩ := mem_ownBlocks.1 hb
    exact hh.own i row L h1 h2 h3
  refine ⟨hh'.out, hh'.rows, hh'.lt, fun i row L h1 h2 h3 => ?_, hh'.apart, ⟨hh'.frame.os.trans hh.frame.os, hh'.frame.tape.trans hh.frame.tape, hh'.frame.output.trans hh.frame.output, Nat.le_trans hh.frame.size hh'.frame.size, fun b hb hs => ?_⟩⟩
  · rcases hh'.own i row L h1 h2 h3 with h | h
    · exact hown _ h
    · exact .inr (Nat.le_trans hh.frame.size h)
  · refine (hh'.frame.block b (Nat.lt_of_lt_of_le hb hh.frame.size) fun hm => ?_).trans (hh.frame.block b hb hs)
    rcases hown b hm with h | h
    · exact hs h
    · omega
theorem Kept.fr {K : List (Nat × Obj)} {ρ : RM} {h : List Row} {w w' : World} (hk : Kept K w) (hh : HR w0 S ρ h w) (hf : Fr w (ownBlocks ρ h) w') : Kept K w' := by
  intro p hp
  obtain ⟨h1, h2⟩ := hk p hp
  refine ⟨h1, (hf.block p.1 (hk.lt hp) fun hm => ?_).trans h2⟩
  obtain ⟨i, row, L, g1, g2, g3, g4⟩ := mem_ownBlocks.1 hm
  rcases hh.rows i row g1 with ⟨_, hu⟩ | ⟨L', hL, hR⟩
  · rw [g3] at hu
    rw [if_pos g2] at hu
    cases hu
  · rw [g3] at hL
    cases hL
    obtain ⟨_, hR⟩ := hR
    rw [if_pos g2] at hR
    obtain ⟨_, c, t, hc, _⟩ := hR
    rw [g4] at hc
    have he := Option.some.inj (h2.symm.trans hc)
    rw [he] at h1
    cases h1

theorem SR.rebase {ρ : RM} {st : St} {a : Act} {w : World} (hr : SR ds n m ρ0 w0 S ρ st a w) : SR ds n m ρ0 w (ownBlocks ρ st.heap) ρ st a w :=
  ⟨hr.keep, hr.pos, hr.long, hr.env, hr.heap.rebase, hr.size, hr.defers, hr.ms⟩
theorem SR.unbase {ρ ρ' : RM} {st st' : St} {a a' : Act} {w w' : World} (hr : SR ds n m ρ0 w0 S ρ st a w) (hr' : SR ds n m ρ0 w (ownBlocks ρ st.heap) ρ' st' a' w') : SR ds n m ρ0 w0 S ρ' st' a' w' :=
  ⟨hr'.keep, hr'.pos, hr'.long, hr'.env, hr.heap.unbase hr'.heap, hr'.size, hr'.defers, hr'.ms⟩

/-- A region: what is kept stays. -/
theorem region_kept (hF : Wide F) {vars : List Nat} {ops : Array Oper} {draw : Bool} {r : Reg} {id : Nat} {st st' : St} {ρ : RM} {a : Act} {w : World} {K : List (Nat × Obj)} {Q : Exit → Act → World → Prop} (hc : cReg P n vars ops draw = some r) (hcall : CallOk P call)
    (hcan : ∀ f args h r, call f args h = some r → callable P f = true) (hrun : runReg call r st = some st') (hr : SR ds n m ρ0 w0 S ρ st a w) (hk : Kept K w) (hQ : ∀ a' w' ρ', SR ds n m ρ0 w0 S ρ' st' a' w' → Kept K w' → Q .normal a' w') :
    (Code.region id ops draw).wpIn F k P Q a w :=
  region_in hF hc hcall hcan hrun hr.rebase fun a' w' ρ' hr' => hQ a' w' ρ' (hr.unbase hr') (hk.fr hr.heap hr'.heap.frame)

theorem cReg_ops {vars : List Nat} {ops : Array Oper} {draw : Bool} {r : Reg} (hc : cReg P n vars ops draw = some r) : r.ops.length = ops.size ∧ ∀ (i : Nat) (o : Oper) (so : SOp), ops[i]? = some o → r.ops[i]? = some so → Rel P n ops o so := by
  unfold cReg at hc
  split at hc
  · cases hc
  · rename_i l hl
    obtain ⟨hlen, hrel⟩ := cOps_spec hl
    split at hc
    · cases hc
    · simp only [Option.some.injEq] at hc
      subst hc
      exact ⟨by simpa using hlen, fun i o so h1 h2 => hrel i o so (by simpa using h1) h2⟩
theorem op_in (hF : Wide F) {Q : Exit → Act → World → Prop} {ops : Array Oper} (hQ : ¬ LetsOut Q) (hd : ∀ (i : Nat) (o : Oper), ops[i]? = some o → ∀ c, o.op ≠ .defer c) {i : Nat} {K : Act → World → Prop} {a : Act} {w : World} {rest : List Nat} (h : wpOp P ops Q i K a w)
    (hK : ∀ a w, K a w → wpOpsIn F k P ops Q rest a w) : wpOpsIn F k P ops Q (i :: rest) a w := by
  unfold wpOp at h
  unfold wpOpsIn
  cases ho : ops[i]? with
  | none =>
    rw [ho] at h
    exact hK a w h
  | some o =>
    rw [ho] at h
    simp only at h ⊢
    by_cases hw : Region.wanted o (yielded ops a.tmps) = true
    · rw [if_pos hw] at h
      rw [if_pos hw]
      rcases h with h | ⟨_, h⟩
      · refine ⟨fun f _ => hF.fn f, ?_⟩
        rw [Oper.semAt_eq _ _ _ (hd i o ho)]
        exact upon_in hF hK _ h
      · exact absurd h hQ
    · rw [if_neg hw] at h
      rw [if_neg hw]
      exact ⟨fun f _ => hF.fn f, hK _ _ h⟩
/-- The first operations of a region; the rest is for another. -/
theorem ops_first (hF : Wide F) {vars : List Nat} {ops : Array Oper} {draw : Bool} {r : Reg} {Q : Exit → Act → World → Prop} {tl : List Nat} (hQl : ¬ LetsOut Q) (hc : cReg P n vars ops draw = some r) (hcall : CallOk P call)
    (hcan : ∀ f args h r, call f args h = some r → callable P f = true) {base : Nat} : ∀ (ix : List Nat) (st st' : St) (recs : List (Nat × List Nat)) (ρ : RM) (a : Act) (w : World), runIx call base r.ops ix st = some (st', recs) → SR ds n m ρ0 w0 S ρ st a w →
      (∀ a' w' ρ', SR ds n m ρ0 w0 S ρ' st' a' w' → wpOpsIn F k P ops Q tl a' w') → wpOpsIn F k P ops Q (ix ++ tl) a w
  | [], st, st', recs, ρ, a, w, h, hr, hQ => by
    simp only [runIx, Option.some.injEq, Prod.mk.injEq] at h
    obtain ⟨rfl, _⟩ := h
    exact hQ a w ρ hr
  | i :: ix, st, st', recs, ρ, a, w, h, hr, hQ => by
    obtain ⟨so, e, s1, r1, hl, he, hrest, hx⟩ := runIx_cons h
    cases hx
    obtain ⟨hlen, hrel⟩ := cReg_ops hc
    have hi : i < ops.size := by rw [← hlen]; exact (List.getElem?_eq_some_iff.1 hl).1
    have ho : ops[i]? = some ops[i] := Array.getElem?_eq_getElem hi
    rw [List.cons_append]
    refine op_in hF hQl (cReg_calm hc) (K := fun a' w' => ∃ ρ', SR ds n m ρ0 w0 S ρ' (applyEff st so.dst e) a' w') ?_ fun a' w' ⟨ρ', hr'⟩ => ops_first hF hQl hc hcall hcan ix _ st' r1 ρ' a' w' hrest hr' hQ
    exact step_ok ho (hrel i _ so ho hl) hcall hcan he hr fun a' w' ρ' hr' => ⟨ρ', hr'⟩
/-- So too where blocks are kept. -/
theorem ops_first_kept (hF : Wide F) {vars : List Nat} {ops : Array Oper} {draw : Bool} {r : Reg} {Q : Exit → Act → World → Prop} {tl : List Nat} (hQl : ¬ LetsOut Q) (hc : cReg P n vars ops draw = some r) (hcall : CallOk P call)
    (hcan : ∀ f args h r, call f args h = some r → callable P f = true) {base : Nat} {ix : List Nat} {st st' : St} {recs : List (Nat × List Nat)} {ρ : RM} {a : Act} {w : World} {K : List (Nat × Obj)} (h : runIx call base r.ops ix st = some (st', recs)) (hr : SR ds n m ρ0 w0 S ρ st a w) (hk : Kept K w)
    (hQ : ∀ a' w' ρ', SR ds n m ρ0 w0 S ρ' st' a' w' → Kept K w' → wpOpsIn F k P ops Q tl a' w') : wpOpsIn F k P ops Q (ix ++ tl) a w :=
  ops_first hF hQl hc hcall hcan ix st st' recs ρ a w h hr.rebase fun a' w' ρ' hr' => hQ a' w' ρ' (hr.unbase hr') (hk.fr hr.heap hr'.heap.frame)
/-- A call of a loop's yield. -/
theorem yield_in {ops : Array Oper} {Q : Exit → Act → World → Prop} {i : Nat} {o : Oper} {x : Operand} {xs : Array Operand} {ats : Array TypeId} {a : Act} {w : World} {l : Nat} {R : World → Prop} {rest : List Nat} (ho : ops[i]? = some o)
    (hop : o.op = .call { callee := .value x, args := xs, argTypes := ats }) (hx : a.eval x = .func (.yield l) #[] #[]) (hw : Region.wanted o (yielded ops a.tmps) = true)
    (hy : YieldAt Fence.wide 0 P l (xs.map a.eval) w fun e w' => e = .returned (.bool true) ∧ R w') (hn : ∀ w', R w' → wpOpsIn Fence.wide 0 P ops Q rest (a.put o.dst (.bool true)) w') : wpOpsIn Fence.wide 0 P ops Q (i :: rest) a w := by
  unfold wpOpsIn
  rw [ho]
  simp only
  rw [if_pos hw]
  refine ⟨fun f _ => trivial, ?_⟩
  rw [Oper.semAt_eq _ _ _ (fun c h => by rw [hop] at h; cases h)]
  obtain ⟨fn, tmps, assign, body, hrun, hround⟩ := hy
  have he : (execOp a.eval o).run P w = .ok (.round l fn tmps assign body) w := by
    simp only [execOp, hop, resolve, hx, Deferred.ofValue, Sem.run_bind, Sem.run_pure, Result.andThen_ok, invoke]
    simpa using hrun
  rw [he]
  refine ⟨(fun h => by cases h), hround.mono fun e w' hp => ?_⟩
  obtain ⟨rfl, hp⟩ := hp
  exact hn w' hp
end
end Go.Sx
