/-
  Rows whose elements have heaps of their own: what is known of these, and that other operations ZfG it so. Conditions: none.
-/
import Derived.Test.YtlbfafbhflblcaaSxK
namespace Go.Sx
open Go
set_option linter.unusedVariables false
def mh (m : List (Bool × EV)) : List Row := m.map fun p => ⟨p.1, p.2⟩
theorem Zmt (m : List (Bool × EV)) (j : Nat) : (mh m)[j]? = (m[j]?).map fun p => ⟨p.1, p.2⟩ := by simp [mh]
def ownB (ρ : RM) (h : List Row) (b : Nat) : Prop := ∃ (i : Nat) (row : Row) (L : Loc), h[i]? = some row ∧ row.own = true ∧ ρ i = some (some L) ∧ L.block = b
def Zit (row : Row) : Prop := Zw row.c = false ∧ noF row.c = true
structure Frag (w0 : World) (S : List Nat) (L : Loc) (z i : Nat) (m : List (Bool × EV)) (w : World) (μ : RM) (tg : Nat → Prop) : Prop where
  heap : HR w0 S μ (mh m) w
  F : μ.F = fun _ => none
  plain : ∀ (j : Nat) (row : Row), (mh m)[j]? = some row → Zit row
  off : z ≠ 0 → ∀ (j : Nat) (row : Row), (mh m)[j]? = some row → 0 ∉ ptrs row.c
  tag : ∀ (j : Nat) (row : Row) (K : Loc), (mh m)[j]? = some row → row.own = true → μ j = some (some K) → tg K.block
  ptr : z = 0 → ∃ (K : Loc) (c : EV), (mh m)[0]? = some ⟨true, c⟩ ∧ isAgg c = true ∧ μ 0 = some (some K) ∧ K.base = 0 ∧ K.block = L.sub i
  val : z ≠ 0 → ∃ (K : Loc) (l : List EV), (mh m)[0]? = some ⟨false, .agg l⟩ ∧ l.length = z ∧ μ 0 = some (some K) ∧ K.base = i * z ∧ K.block = L.block
  rest : ∀ (j : Nat) (row : Row), (mh m)[j + 1]? = some row → row.own = true
structure Trees (w0 : World) (S : List Nat) (ρ : RM) (h : List Row) (w : World) (μ : Nat → Nat → RM) (tg : Nat → Option (Nat × Nat)) : Prop where
  ro : ∀ (r : Nat) (row : Row), h[r]? = some row → Zw row.c = true → row.own = false
  list : ∀ (r : Nat) (z : Nat) (els : List (List (Bool × EV))), h[r]? = some ⟨false, .tree z els⟩ → ∃ L, ρ r = some (some L) ∧ L.base = 0 ∧ tg L.block = some (r, 0) ∧
    (∃ (c : Array Value) (t : TypeId), w.heap[L.block]? = some (.cells c t (0, 0)) ∧ L.room ≤ c.size ∧ els.length * max z 1 ≤ L.room) ∧
    (z = 0 → ∀ i, i < els.length → w.cell? ⟨L.block, i, none⟩ = some (.pointer (some ⟨L.sub i, 0, none⟩))) ∧
    ∀ (i : Nat) (m : List (Bool × EV)), els[i]? = some m → Frag w0 S L z i m w (μ r i) (fun b => tg b = some (r, i + 1))
  out : ∀ (i : Nat) (row : Row) (L : Loc), h[i]? = some row → Zw row.c = false → ρ i = some (some L) → tg L.block = none
  inn : ∀ b x, tg b = some x → b < w.heap.size ∧ ρ.F b = none ∧ (b ∈ S ∨ w0.heap.size ≤ b)
def HRT (w0 : World) (S : List Nat) (ρ : RM) (h : List Row) (w : World) : Prop := HR w0 S ρ h w ∧ ∃ μ tg, Trees w0 S ρ h w μ tg
theorem Trees.no {w0 w : World} {S : List Nat} {ρ : RM} {h : List Row} (ht : ∀ (i : Nat) (row : Row), h[i]? = some row → Zw row.c = false) : Trees w0 S ρ h w (fun _ _ => ρ) (fun _ => .none) :=
  ⟨fun r row hr h1 => (by rw [ht r row hr] at h1; cases h1), fun r z els hr => (by have := ht r _ hr; simp [Zw] at this), fun _ _ _ _ _ _ => rfl, fun b x hx => (by cases hx)⟩
theorem HRT.no {w0 w : World} {S : List Nat} {ρ : RM} {h : List Row} (hh : HR w0 S ρ h w) (ht : ∀ (i : Nat) (row : Row), h[i]? = some row → Zw row.c = false) : HRT w0 S ρ h w :=
  ⟨hh, _, _, Trees.no ht⟩
theorem HR.base {w0 w : World} {S S' : List Nat} {ρ : RM} {h : List Row} (hh : HR w0 S ρ h w) (hS : ∀ (i : Nat) (row : Row) (L : Loc), h[i]? = some row → row.own = true → ρ i = some (some L) → L.block ∈ S') : HR w S' ⟨ρ.at_, ρ.F, fun b => ∃ o, ρ.F b = some o⟩ h w :=
  ⟨hh.out, fun i r hi => (hh.rows i r hi).imp id fun ⟨L, h1, h2⟩ => ⟨L, h1, h2.mono0 ⟨fun _ _ h => .inl h, Zae _⟩⟩, hh.lt, fun i row L hi ho hL => .inl (hS i row L hi ho hL), hh.apart, Fr.refl _ _, hh.froz, hh.ice, fun b o hb => .inl ⟨o, hb⟩⟩
theorem Fr.two {w0 w w' : World} {S S' : List Nat} (h1 : Fr w0 S w) (h2 : Fr w S' w') (hS : ∀ b ∈ S', b ∈ S ∨ w0.heap.size ≤ b) : Fr w0 S w' :=
  ⟨h2.os.trans h1.os, h2.tape.trans h1.tape, h2.output.trans h1.output, Nat.le_trans h1.size h2.size, fun b hb hn => (h2.block b (Nat.lt_of_lt_of_le hb h1.size) (fun hs => by
    rcases hS b hs with h | h
    · exact hn h
    · omega)).trans (h1.block b hb hn)⟩
theorem HR.unbase {w0 w w' : World} {S S' : List Nat} {ρ ρ' : RM} {h h' : List Row} (hh : HR w0 S ρ h w) (hS : ∀ b ∈ S', b ∈ S ∨ w0.heap.size ≤ b) (hR : HR w S' ρ' h' w') (h0 : ρ'.F0 = fun b => ∃ o, ρ.F b = some o) : HR w0 S ⟨ρ'.at_, ρ'.F, ρ.F0⟩ h' w' := by
  have hsz := hh.frame.size
  refine ⟨hR.out, fun i r hi => (hR.rows i r hi).imp id fun ⟨L, h1, h2⟩ => ⟨L, h1, h2.mono0 ⟨fun _ _ h => .inl h, Zae _⟩⟩, hR.lt, fun i row L hi ho hL => ?_, hR.apart, hh.frame.two hR.frame hS, hR.froz, hR.ice, fun b o hb => ?_⟩
  · rcases hR.own i row L hi ho hL with h | h
    · exact hS _ h
    · exact .inr (by omega)
  · rcases hR.cold b o hb with h | h | h
    · rw [h0] at h
      obtain ⟨o', ho'⟩ := h
      exact hh.cold b o' ho'
    · rcases hS _ h with h | h
      · exact .inr (.inl h)
      · exact .inr (.inr h)
    · exact .inr (.inr (by omega))
theorem HR.keep {w0 w w' : World} {S : List Nat} {ρ : RM} {h : List Row} (hh : HR w0 S ρ h w) (hF : ρ.F = fun _ => .none) (hf : Fr w0 S w') (hs : w.heap.size ≤ w'.heap.size) (hb : ∀ i L, ρ i = some (some L) → w'.heap[L.block]? = w.heap[L.block]?) : HR w0 S ρ h w' :=
  ⟨hh.out, fun i r hi => (hh.rows i r hi).imp id fun ⟨L, h1, h2⟩ => ⟨L, h1, h2.same (hb i L h1)⟩, fun i L hL => Nat.lt_of_lt_of_le (hh.lt i L hL) hs, hh.own, hh.apart, hf, fun b o hb' => (by rw [hF] at hb'; cases hb'), hh.ice, hh.cold⟩
theorem Frag.keep {w0 w w' : World} {S : List Nat} {L : Loc} {z i : Nat} {m : List (Bool × EV)} {μ : RM} {tg : Nat → Prop} (hh : Frag w0 S L z i m w μ tg) (hf : Fr w0 S w') (hs : w.heap.size ≤ w'.heap.size) (hL : w'.heap[L.block]? = w.heap[L.block]?) (hb : ∀ b, tg b → w'.heap[b]? = w.heap[b]?) : Frag w0 S L z i m w' μ tg := by
  refine ⟨hh.heap.keep hh.F hf hs fun j K hK => ?_, hh.F, hh.plain, hh.off, hh.tag, hh.ptr, hh.val, hh.rest⟩
  cases hr : (mh m)[j]? with
  | none => rw [hh.heap.out j hr] at hK; cases hK
  | some row =>
    by_cases ho : row.own = true
    · exact hb _ (hh.tag j row K hr ho hK)
    · cases j with
      | succ j => exact absurd (hh.rest j row hr) ho
      | zero =>
        by_cases hz : z = 0
        · obtain ⟨K', c, h1, _⟩ := hh.ptr hz
          rw [h1] at hr; cases hr
          exact absurd rfl ho
        · obtain ⟨K', l, h1, h2, h3, h4, h5⟩ := hh.val hz
          rw [h3] at hK; cases hK
          rw [h5]
          exact hL
theorem Frag.mono {w0 w : World} {S : List Nat} {L : Loc} {z i : Nat} {m : List (Bool × EV)} {μ : RM} {tg tg2 : Nat → Prop} (hh : Frag w0 S L z i m w μ tg) (ht : ∀ b, tg b → tg2 b) : Frag w0 S L z i m w μ tg2 :=
  ⟨hh.heap, hh.F, hh.plain, hh.off, fun j row K h1 h2 h3 => ht _ (hh.tag j row K h1 h2 h3), hh.ptr, hh.val, hh.rest⟩
theorem HR.back {w0 w w' : World} {S S' : List Nat} {ρ ρ' : RM} {h h' : List Row} (hh : HR w0 S ρ h w) (hS : ∀ b ∈ S', b ∈ S ∨ w0.heap.size ≤ b) (hR : HR w S' ρ' h' w') (hF : ρ'.F = fun _ => .none) (hf : Fr w0 S w') : HR w0 S ρ' h' w' := by
  have hsz := hh.frame.size
  refine ⟨hR.out, hR.rows, hR.lt, fun i row L hi ho hL => ?_, hR.apart, hf, hR.froz, hR.ice, fun b o hb => by rw [hF] at hb; cases hb⟩
  rcases hR.own i row L hi ho hL with h | h
  · exact hS _ h
  · exact .inr (by omega)
def ownL (ρ : RM) (h : List Row) : List Nat := (List.range h.length).filterMap fun i => match h[i]?, ρ i with
  | some row, some (some L) => if row.own then some L.block else none
  | _, _ => none
theorem Zd3 {ρ : RM} {h : List Row} {b : Nat} : b ∈ ownL ρ h ↔ ownB ρ h b := by
  unfold ownL ownB
  simp only [List.mem_filterMap, List.mem_range]
  constructor
  · rintro ⟨i, hi, hb⟩
    split at hb
    · rename_i row L h1 h2
      split at hb
      · simp only [Option.some.injEq] at hb
        exact ⟨i, row, L, h1, by assumption, h2, hb⟩
      · cases hb
    · cases hb
  · rintro ⟨i, row, L, h1, h2, h3, h4⟩
    exact ⟨i, (List.getElem?_eq_some_iff.1 h1).1, by simp [h1, h2, h3, h4]⟩
structure Good (h h' : List Row) : Prop where
  stay : ∀ (r : Nat) (row : Row), h[r]? = some row → Zw row.c = true → h'[r]? = some row
  old : ∀ (r : Nat) (row : Row), h'[r]? = some row → Zw row.c = true → h[r]? = some row
  ro : ∀ (r : Nat) (row : Row), h'[r]? = some row → Zw row.c = false → row.own = false → row.c = .unk ∨ ∃ row0, h[r]? = some row0 ∧ Zw row0.c = false ∧ row0.c ≠ .unk
theorem HRT.lift {w0 w w' : World} {S S' : List Nat} {ρ ρ' : RM} {h h' : List Row} (hT : HRT w0 S ρ h w) (hS' : ∀ b, b ∈ S' ↔ ownB ρ h b) (hR : HR w S' ρ' h' w') (hl : le ⟨ρ.at_, ρ.F, fun b => ∃ o, ρ.F b = some o⟩ ρ') (hg : Good h h') :
    HRT w0 S ⟨ρ'.at_, ρ'.F, ρ.F0⟩ h' w' := by
  obtain ⟨hh, μ, tg, ht⟩ := hT
  have hSS : ∀ b ∈ S', b ∈ S ∨ w0.heap.size ≤ b := fun b hb => by
    obtain ⟨i, row, L, h1, h2, h3, rfl⟩ := (hS' b).1 hb
    exact hh.own i row L h1 h2 h3
  have hno : ∀ b ∈ S', tg b = none := fun b hb => by
    obtain ⟨i, row, L, h1, h2, h3, rfl⟩ := (hS' b).1 hb
    refine ht.out i row L h1 ?_ h3
    cases ht' : Zw row.c with
    | false => rfl
    | true => rw [ht.ro i row h1 ht'] at h2; cases h2
  have hsame : ∀ b x, tg b = some x → w'.heap[b]? = w.heap[b]? := fun b x hx => hR.frame.block b (ht.inn b x hx).1 fun hb => by rw [hno b hb] at hx; cases hx
  have hf := hh.frame.two hR.frame hSS
  refine ⟨hh.unbase hSS hR hl.2.2, μ, tg, fun r row hr h1 => ht.ro r row (hg.old r row hr h1) h1, fun r z els hr => ?_, fun i row L hi h1 hL => ?_, fun b x hx => ?_⟩
  · obtain ⟨L, h1, h2, h3, ⟨c, t, h4, h5, h6⟩, h7, h8⟩ := ht.list r z els (hg.old r _ hr rfl)
    have hw := hsame _ _ h3
    have hL : ρ' r = some (some L) := by
      rcases hl.1 r _ h1 with e | e
      · exact e
      · rcases hR.rows r _ hr with ⟨e1, _⟩ | ⟨L', e1, _⟩
        · cases e1
        · rw [e] at e1; cases e1
    refine ⟨L, hL, h2, h3, ⟨c, t, hw.trans h4, h5, h6⟩, fun hz i hi => ?_, fun i m hm => ?_⟩
    · have := h7 hz i hi
      simpa [World.cell?, hw] using this
    · exact (h8 i m hm).keep hf hR.frame.size hw fun b hb => hsame b _ hb
  · cases ho : row.own with
    | true =>
      rcases hR.own i row L hi ho hL with hb | hb
      · exact hno _ hb
      · cases hx : tg L.block with
        | none => rfl
        | some x => have := (ht.inn _ x hx).1; omega
    | false =>
      rcases hg.ro i row hi h1 ho with hu | ⟨row0, h2, h3, h4⟩
      · rcases hR.rows i row hi with ⟨_, e⟩ | ⟨L', e1, e2⟩
        · rw [ho] at e
          have e : ρ' i = none := e
          have hL : ρ' i = some (some L) := hL
          rw [e] at hL; cases hL
        · have := e2.read.1
          rw [hu] at this
          simp [isAgg, Zw] at this
      · rcases hh.rows i row0 h2 with ⟨e, _⟩ | ⟨L0, e1, _⟩
        · exact absurd e h4
        · have hL : ρ' i = some (some L) := hL
          rcases hl.1 i _ e1 with e | e
          · rw [e] at hL; cases hL
            exact ht.out i row0 _ h2 h3 e1
          · rw [e] at hL; cases hL
  · obtain ⟨h1, h2, h3⟩ := ht.inn b x hx
    refine ⟨Nat.lt_of_lt_of_le h1 hR.frame.size, ?_, h3⟩
    cases hF : ρ'.F b with
    | none => rfl
    | some o =>
      rcases hR.cold b o hF with e | e | e
      · rw [hl.2.2] at e
        obtain ⟨o', ho'⟩ := e
        have ho' : ρ.F b = some o' := ho'
        rw [h2] at ho'; cases ho'
      · rw [hno b e] at hx; cases hx
      · omega
theorem Z9 {c : EV} (h : isAgg c = true) : Zw c = false := by cases c <;> simp [isAgg] at h <;> rfl
theorem Zjf {c : EV} (h : isAgg c = true) : c ≠ .unk := by rintro rfl; simp [isAgg] at h
theorem ZbH : ∀ (l : List (Nat × Row)) (h : List Row) (i : Nat) (row : Row), (l.foldl setRow h)[i]? = some row → h[i]? = some row ∨ ∃ p ∈ l, p.1 = i ∧ p.2 = row
  | [], h, i, row, hi => .inl hi
  | p :: l, h, i, row, hi => by
    simp only [List.foldl_cons] at hi
    rcases ZbH l _ i row hi with h1 | ⟨q, h1, h2⟩
    · simp only [setRow] at h1
      by_cases e : p.1 = i
      · rw [List.getElem?_set, if_pos e] at h1
        split at h1
        · simp only [Option.some.injEq] at h1
          exact .inr ⟨p, by simp, e, h1⟩
        · cases h1
      · rw [List.getElem?_set_ne e] at h1
        exact .inl h1
    · exact .inr ⟨q, by simp [h1], h2⟩
def Zkc (h : List Row) (p : Nat × Row) : Prop := (∀ row, h[p.1]? = some row → Zw row.c = false) ∧ Zw p.2.c = false ∧ (p.2.own = true ∨ p.2.c = .unk ∨ ∃ row, h[p.1]? = some row ∧ row.c ≠ .unk)
theorem Good.of {h : List Row} {l : List (Nat × Row)} (hp : ∀ p ∈ l, Zkc h p) : Good h (l.foldl setRow h) := by
  refine ⟨fun r row hr ht => ?_, fun r row hr ht => ?_, fun r row hr ht ho => ?_⟩
  · rw [Zab l h r fun p hp' e => ?_]
    · exact hr
    · have := (hp p hp').1 row (by rw [e]; exact hr)
      rw [ht] at this; cases this
  · rcases ZbH l h r row hr with h1 | ⟨p, h1, h2, h3⟩
    · exact h1
    · have := (hp p h1).2.1
      rw [h3, ht] at this; cases this
  · rcases ZbH l h r row hr with h1 | ⟨p, h1, h2, h3⟩
    · by_cases e : row.c = .unk
      · exact .inl e
      · exact .inr ⟨row, h1, ht, e⟩
    · rcases (hp p h1).2.2 with e | e | ⟨row0, e1, e2⟩
      · rw [h3, ho] at e; cases e
      · exact .inl (by rw [← h3]; exact e)
      · exact .inr ⟨row0, by rw [← h2]; exact e1, (hp p h1).1 row0 e1, e2⟩
theorem Zkc.fresh {h : List Row} {r : Nat} {c : EV} (hf : fresh h r = true) (hc : Zw c = false) : Zkc h (r, ⟨true, c⟩) := by
  refine ⟨fun row hr => ?_, hc, .inl rfl⟩
  unfold Sx.fresh at hf
  split at hf
  · rename_i e
    rw [e] at hr; cases hr; rfl
  · cases hf
theorem Zkc.agg {h : List Row} {r : Nat} {row : Row} {c : EV} (hr : h[r]? = some row) (ha : Zw row.c = false) (hc : Zw c = false) : Zkc h (r, ⟨true, c⟩) :=
  ⟨fun row' h' => by rw [hr] at h'; cases h'; exact ha, hc, .inl rfl⟩
theorem ZcK : ∀ {l : List (Nat × Nat × EV)} {c c' : EV}, Za2 c l = some c' → Zw c = false → Zw c' = false
  | [], c, c', h, hc => by simp only [Za2, Option.some.injEq] at h; subst h; exact hc
  | (off, n, v) :: r, c, c', h, hc => by
    simp only [Za2] at h
    split at h
    · simp only [Option.bind_eq_some_iff] at h
      obtain ⟨c1, h1, h2⟩ := h
      exact ZcK h2 (Z9 (ZaP h1).2.1)
    · cases h
theorem ZeB (n : Nat) (z : EV) : Zw (crep n z) = false := by cases z <;> rfl
theorem Zjg {sz : Nat} {v : EV} (h : Zw v = false) : Zw (ZfD sz v) = false := by
  unfold ZfD
  repeat' split
  all_goals first | rfl | exact h
theorem Zjh {v : EV} (h : isAgg v = true ∨ ZM v = true) : Zw (ZfE v) = false := by
  cases v <;> first | rfl | (rcases h with h | h <;> simp [isAgg, ZM] at h)
theorem ZgI {h : List Row} {sz k : Nat} {x c : EV} (hs : ZaU h sz k x = some c) : Zw c = false := by
  unfold ZaU at hs
  repeat' split at hs
  all_goals first | (cases hs; rfl) | exact Z9 (Zan hs).2.1 | cases hs
theorem Zkd {a b c : EV} (h : ccat a b = some c) : Zw c = false := by
  unfold ccat at h
  repeat' split at h
  all_goals first | (cases h; rfl) | cases h
theorem Zke {a b c : EV} (h : ccat a b = some c) : Zw a = false := by
  unfold ccat at h
  repeat' split at h
  all_goals first | rfl | cases h
theorem Zkf {h : List Row} {T : List Nat} {ks : List NK} {c : EV} {x : EV × List Nat} (hx : frzC h T ks c = some x) (hc : Zw c = false) : Zw x.1 = false ∧ ∀ r ∈ x.2, ZaF h r = true := by
  unfold frzC at hx
  split at hx
  · split at hx
    · rename_i hcond
      simp only [Bool.and_eq_true, List.all_eq_true] at hcond
      simp only [Option.map_eq_some_iff] at hx
      obtain ⟨y, _, rfl⟩ := hx
      exact ⟨rfl, fun r hr => (hcond.2 r hr).1⟩
    · cases hx
  · cases hx
    exact ⟨hc, fun r hr => by cases hr⟩
def SO.goes : SO → Bool
  | .callP .. | .call .. | .callB .. | .callv .. | .loadT .. | .appT .. | .callT .. => true
  | _ => false
theorem ZgJ {call : ZS} {at_ : Nat} {o : SO} {σ : Nat → EV} {h : List Row} {e : Eff} (hg : o.goes = false) (he : evOp call at_ o σ h = some e) : e.news = [] ∧ Good h (e.upd.foldl setRow h) := by
  have none_ : ∀ {v : EV}, e = { v := v } → e.news = [] ∧ Good h (e.upd.foldl setRow h) := fun {v} hv => by
    subst hv
    exact ⟨rfl, Good.of (l := []) fun p hp => by cases hp⟩
  cases o <;> simp [SO.goes] at hg <;> simp only [evOp] at he
  case alloc z =>
    split at he
    · rename_i hc
      simp only [Bool.and_eq_true] at hc
      cases he
      exact ⟨rfl, Good.of fun p hp => by simp only [List.mem_singleton] at hp; subst hp; exact .fresh hc.1 (Z9 hc.2)⟩
    · cases he
  case box x =>
    split at he
    · rename_i hc
      simp only [Bool.and_eq_true, Bool.or_eq_true] at hc
      cases he
      exact ⟨rfl, Good.of fun p hp => by simp only [List.mem_singleton] at hp; subst hp; exact .fresh hc.1 (Zjh hc.2)⟩
    · cases he
  case bslice sz len z ps =>
    split at he
    · rename_i hc
      simp only [Option.map_eq_some_iff] at he
      obtain ⟨c, h1, rfl⟩ := he
      exact ⟨rfl, Good.of fun p hp => by simp only [List.mem_singleton] at hp; subst hp; exact .fresh hc (ZcK h1 (ZeB _ _))⟩
    · cases he
  case bsliceF ks sz len z ps =>
    split at he
    · rename_i hc
      simp only [Option.bind_eq_some_iff, Option.map_eq_some_iff] at he
      obtain ⟨c, h1, x, h2, rfl⟩ := he
      obtain ⟨q1, q2⟩ := Zkf h2 (ZcK h1 (ZeB _ _))
      refine ⟨rfl, Good.of fun p hp => ?_⟩
      simp only [ZcR, List.mem_cons, List.mem_map] at hp
      rcases hp with rfl | ⟨r, hr, rfl⟩
      · exact .fresh hc q1
      · obtain ⟨row, r1, r2, r3⟩ := Zaz (q2 r hr)
        have hrow : Zo h r = row := by unfold Zo; rw [List.getD_eq_getElem?_getD, r1]; rfl
        refine ⟨fun row' h' => by simp only at h'; rw [r1] at h'; cases h'; exact Z9 r3, ?_, ?_⟩
        · rcases ZeA h ks r with e | e <;> simp only [e]
          · rfl
          · rw [hrow]; exact Z9 r3
        · rcases ZeA h ks r with e | e <;> simp only [e]
          · exact .inl trivial
          · exact .inr (.inr ⟨row, r1, Zjf r3⟩)
    · cases he
  case mkslice sz bytes z n c =>
    split at he
    · split at he
      · rename_i hc
        cases he
        exact ⟨rfl, Good.of fun p hp => by simp only [List.mem_singleton] at hp; subst hp; exact .fresh hc.1 (ZeB _ _)⟩
      · cases he
    · cases he
  case store n a x =>
    split at he
    · split at he
      · rename_i row hr
        split at he
        · simp only [Option.map_eq_some_iff] at he
          obtain ⟨c, h1, rfl⟩ := he
          have hs := ZaP h1
          exact ⟨rfl, Good.of fun p hp => by simp only [List.mem_singleton] at hp; subst hp; exact .agg hr (Z9 hs.1) (Z9 hs.2.1)⟩
        · cases he
      · cases he
    · cases he
  case app sz bytes s x =>
    split at he
    · split at he
      · simp only [Option.map_eq_some_iff] at he
        obtain ⟨c, _, rfl⟩ := he
        exact none_ rfl
      · split at he
        · rename_i hc
          simp only [Option.map_eq_some_iff] at he
          obtain ⟨c, h1, rfl⟩ := he
          exact ⟨rfl, Good.of fun p hp => by simp only [List.mem_singleton] at hp; subst hp; exact .fresh hc.1 (Zjg (ZgI h1))⟩
        · cases he
    · split at he
      · rename_i hc
        split at he
        · rename_i row hr
          split at he
          · rename_i hown
            simp only [Option.map_eq_some_iff, Option.bind_eq_some_iff] at he
            obtain ⟨c, ⟨y, h1, h2⟩, rfl⟩ := he
            refine ⟨rfl, Good.of fun p hp => ?_⟩
            simp only [List.mem_cons, List.not_mem_nil, or_false] at hp
            rcases hp with rfl | rfl
            · exact .agg hr (Zke h2) rfl
            · exact .fresh hc.1 (Zkd h2)
          · cases he
        · cases he
      · cases he
    · cases he
  case copy sz d s =>
    split at he
    · split at he
      · split at he
        · cases he; exact none_ rfl
        · split at he
          · rename_i row hr
            split at he
            · simp only [Option.bind_eq_some_iff, Option.map_eq_some_iff] at he
              obtain ⟨y, _, c, h1, rfl⟩ := he
              have hs := ZaP h1
              exact ⟨rfl, Good.of fun p hp => by simp only [List.mem_singleton] at hp; subst hp; exact .agg hr (Z9 hs.1) (Z9 hs.2.1)⟩
            · cases he
          · cases he
      · cases he
    · (repeat' split at he) <;> first | (cases he; exact none_ rfl) | cases he
    · cases he
  case slS sz x lo hi =>
    split at he
    · split at he
      · simp only [Option.map_eq_some_iff, Option.bind_eq_some_iff] at he
        obtain ⟨_, _, _, _, rfl⟩ := he
        exact none_ rfl
      · cases he
    · simp only [Option.map_eq_some_iff, Option.bind_eq_some_iff] at he
      obtain ⟨_, _, _, _, rfl⟩ := he
      exact none_ rfl
    · split at he
      · simp only [Option.bind_eq_some_iff] at he
        obtain ⟨_, _, _, _, he⟩ := he
        split at he
        · cases he; exact none_ rfl
        · cases he
      · cases he
    · cases he
  case slA m sz x lo hi =>
    split at he
    · simp only [Option.bind_eq_some_iff] at he
      obtain ⟨_, _, _, _, he⟩ := he
      split at he
      · split at he
        · cases he; exact none_ rfl
        · cases he
      · cases he
    · cases he
  all_goals
    (repeat' split at he)
    all_goals first
      | cases he; done
      | (cases he; exact none_ rfl)
      | (simp only [Option.map_eq_some_iff, Option.bind_eq_some_iff] at he; obtain ⟨_, _, rfl⟩ := he; exact none_ rfl)
      | (simp only [Option.map_eq_some_iff, Option.bind_eq_some_iff] at he; obtain ⟨_, _, _, _, rfl⟩ := he; exact none_ rfl)
      | (simp only [Option.map_eq_some_iff, Option.bind_eq_some_iff] at he; obtain ⟨_, _, _, _, _, _, rfl⟩ := he; exact none_ rfl)
end Go.Sx
