/-
  An element appended to a list whose elements have heaps of their own. Conditions: none.
-/
import Derived.Test.YtlbfafbhflblcaaSx0
namespace Go.Sx
open Go
set_option linter.unusedVariables false
set_option linter.unusedSimpArgs false
section
variable {P : Program} {call : ZS} {a : Act} {w w0 : World} {S : List Nat} {σ : Nat → EV} {ρ : RM} {h : List Row} {n : Nat}
theorem ZdJ {h : List Row} {z t : Nat} {l : List EV} {m : List (Bool × EV)} {ids : List Nat} (hn : Za4 h z t l = some (m, ids)) :
    (t :: ids).Nodup ∧ (∀ i ∈ t :: ids, ZaF h i = true ∧ noF (Zo h i).c = true) ∧
      ((z = 0 ∧ ∃ b r, l = [.ptr b 0] ∧ ids = b :: r ∧ m = Zac h ids) ∨ (z ≠ 0 ∧ ∃ o c q, Zac h (t :: ids) = (o, c) :: q ∧ m = (false, c) :: q)) := by
  have hnd : (t :: ids).Nodup := by rw [← Zfp hn]; exact Zay h _ _ _ List.nodup_nil
  unfold Za4 at hn
  split at hn
  · rename_i t' r hr
    split at hn
    · rename_i hc
      have hall : ∀ i ∈ t :: r, ZaF h i = true ∧ noF (Zo h i).c = true := fun i hi => by
        have := List.all_eq_true.1 hc.2 i hi
        simpa using this
      split at hn
      · split at hn
        · rename_i b b' r'
          split at hn
          · rename_i hb
            simp only [Option.some.injEq, Prod.mk.injEq] at hn
            obtain ⟨rfl, rfl⟩ := hn
            exact ⟨hnd, hall, .inl ⟨rfl, b, r', rfl, by rw [hb], rfl⟩⟩
          · cases hn
        · cases hn
      · split at hn
        · rename_i o c q hq
          simp only [Option.some.injEq, Prod.mk.injEq] at hn
          obtain ⟨rfl, rfl⟩ := hn
          exact ⟨hnd, hall, .inr ⟨by omega, o, c, q, hq, rfl⟩⟩
        · cases hn
    · cases hn
  · cases hn
theorem ZgP {o : Oper} {v : Value} {w' : World} {z zz t r B' room' : Nat} {els : List (List (Bool × EV))} {l : List EV} {m : List (Bool × EV)} {ids : List Nat} {L : Loc} {cs' : Array Value} {t' : TypeId} {h' : List Row} {mu : Nat → Nat → RM} {tg : Nat → Option (Nat × Nat)}
    (hh : HR w0 S ρ h w) (ht : Trees w0 S ρ h w mu tg) (hf : fresh h n = true) (hzz : zz = max z 1) (htr : h[t]? = some ⟨true, .agg l⟩) (hll : l.length = zz) (hnt : Za4 h z t l = some (m, ids)) (hok : ZbU z m = true) (hnid : n ∉ ids)
    (hold : (els = [] ∧ r = n) ∨ (h[r]? = some ⟨false, .tree z els⟩ ∧ ρ r = some (some L) ∧ L.base = 0 ∧ (z = 0 → ∀ i, i < els.length → w.cell? ⟨L.block, i, none⟩ = some (.pointer (some ⟨L.sub i, 0, none⟩))) ∧
      ∀ (i : Nat) (m : List (Bool × EV)), els[i]? = some m → Frag w0 S L z i m w (mu r i) (fun b => tg b = some (r, i + 1))))
    (hcls : ∀ j, (j = n ∧ h'[j]? = some ⟨false, .tree z (els ++ [m])⟩) ∨ (j ≠ n ∧ (j ∈ t :: ids ∨ j = r) ∧ h'[j]? = some ⟨true, .unk⟩) ∨ (j ≠ n ∧ j ∉ t :: ids ∧ j ≠ r ∧ h'[j]? = h[j]?))
    (hv : ∃ cap', v = .slice (some ⟨B', 0, none⟩) (els.length + 1) cap' ∧ els.length + 1 ≤ cap' ∧ cap' * zz ≤ room') (hw' : w'.heap[B']? = some (.cells cs' t' (0, 0))) (hroom : room' ≤ cs'.size)
    (hcell : ∀ j, j < els.length * zz → w'.cell? ⟨B', j, none⟩ = w.cell? ⟨L.block, j, none⟩) {news : List Value} (hnews : ∀ j, j < zz → w'.cell? ⟨B', els.length * zz + j, none⟩ = news[j]?) (n3 : ∀ u ∈ news, u.oneCell' = true) (n4 : ∀ (j : Nat) (e : EV), l[j]? = some e → ∃ u, news[j]? = some u ∧ VR ρ e u)
    (hchg : Chg w w' B') (hB : w.heap.size ≤ B' ∨ tg B' = some (r, 0)) (hlt : B' < w'.heap.size) :
    ∃ ρ', le ρ ρ' ∧ VR ρ' (.slice n 0 (els.length + 1) zz) v ∧ HRT w0 S ρ' h' w' := by
  have hzz0 : z = 0 → zz = 1 := fun h => by rw [hzz, h]; rfl
  have hzz1 : z ≠ 0 → zz = z := fun h => by rw [hzz]; exact Nat.max_eq_left (Nat.pos_of_ne_zero h)
  have hzzp : max (z : Nat) 1 = zz := hzz.symm
  clear hzz
  obtain ⟨hnd, hids, hform⟩ := ZdJ hnt
  have hnrow : h[n]? = some ⟨false, .unk⟩ := by
    unfold fresh at hf
    split at hf
    · assumption
    · cases hf
  have hρn : ρ n = none := by
    rcases hh.rows n _ hnrow with ⟨_, e⟩ | ⟨K, _, e⟩
    · simpa using e
    · have := e.read.1; simp [isAgg, Zw] at this
  have hidsrow : ∀ i ∈ t :: ids, ∃ (row : Row) (K : Loc), h[i]? = some row ∧ row.own = true ∧ isAgg row.c = true ∧ ρ i = some (some K) ∧ RowR ρ row K w := fun i hi => by
    obtain ⟨row, h1, h2, h3⟩ := Zaz (hids i hi).1
    obtain ⟨K, h4, h5⟩ := hh.live h1 h3
    exact ⟨row, K, h1, h2, h3, h4, h5⟩
  have hrid : r ∉ t :: ids := fun hr => by
    obtain ⟨row, K, h1, h2, h3, _⟩ := hidsrow r hr
    rcases hold with ⟨_, e⟩ | ⟨e, _⟩
    · rw [e, hnrow] at h1; cases h1; cases h2
    · rw [e] at h1; cases h1; cases h2
  have hnid' : n ∉ t :: ids := fun hr => by
    obtain ⟨row, K, h1, h2, h3, _⟩ := hidsrow n hr
    rw [hnrow] at h1; cases h1; cases h2
  have hBne : ∀ (j : Nat) (row : Row) (J : Loc), h[j]? = some row → j ≠ r → ρ j = some (some J) → J.block ≠ B' := fun j row J hj hjr hJ e => by
    rcases hB with hB | hB
    · have := hh.lt j J hJ; omega
    · cases htr' : Zw row.c with
      | false => rw [← e, ht.out j row J hj htr' hJ] at hB; cases hB
      | true =>
        obtain ⟨z', els', rfl⟩ := Zc4 (ht.ro j row hj htr') htr'
        obtain ⟨J', q1, _, q3, _⟩ := ht.list j z' els' hj
        rw [hJ] at q1; cases q1
        rw [← e, q3] at hB
        simp only [Option.some.injEq, Prod.mk.injEq] at hB
        exact hjr hB.1
  have hsame : ∀ b, b < w.heap.size → b ≠ B' → w'.heap[b]? = w.heap[b]? := fun b hb hne => hchg.block b hb hne
  have hBS : B' ∈ S ∨ w0.heap.size ≤ B' := by
    rcases hB with hB | hB
    · have := hh.frame.size; exact .inr (by omega)
    · exact (ht.inn B' _ hB).2.2
  have hfr := hh.frame.chg hchg hBS
  have hFB : ρ.F B' = none := by
    cases hF : ρ.F B' with
    | none => rfl
    | some q =>
      rcases hB with hB | hB
      · have := hh.froz_lt hF; omega
      · rw [(ht.inn B' _ hB).2.1] at hF; cases hF
  obtain ⟨cap', hveq, hcap1, hcap2⟩ := hv
  have hKb : ∃ Kb : Nat, z = 0 → ∃ (b : Nat) (rr : List Nat) (K : Loc), l = [.ptr b 0] ∧ ids = b :: rr ∧ ρ b = some (some K) ∧ K.base = 0 ∧ K.block = Kb := by
    by_cases hz : z = 0
    · rcases hform with ⟨_, b, rr, h1, h2, _⟩ | ⟨hz', _⟩
      · obtain ⟨row, K, q1, q2, q3, q4, q5⟩ := hidsrow b (by rw [h2]; simp)
        have hb0 : K.base = 0 := by
          obtain ⟨_, q6⟩ := q5
          rw [if_pos q2] at q6
          exact q6.1
        exact ⟨K.block, fun _ => ⟨b, rr, K, h1, h2, q4, hb0, rfl⟩⟩
      · exact absurd hz hz'
    · exact ⟨0, fun e => absurd e hz⟩
  obtain ⟨Kb, hKb⟩ := hKb
  generalize hL' : (Loc.mk B' 0 room' fun k => if k = els.length then Kb else L.sub k) = L'
  have hL'b : L'.block = B' := by rw [← hL']
  have hL'0 : L'.base = 0 := by rw [← hL']
  have hL'r : L'.room = room' := by rw [← hL']
  let ρ' : RM := ⟨fun j => if j = n then some (some L') else if j ∈ t :: ids ∨ j = r then some none else ρ j, ρ.F, ρ.F0⟩
  have hρ'n : ρ' n = some (some L') := by simp only [ρ', if_true]
  have hρ'd : ∀ j, j ≠ n → (j ∈ t :: ids ∨ j = r) → ρ' j = some none := fun j h1 h2 => by simp only [ρ', if_neg h1]; rw [if_pos h2]
  have hρ'o : ∀ j, j ≠ n → j ∉ t :: ids → j ≠ r → ρ' j = ρ j := fun j h1 h2 h3 => by simp only [ρ', if_neg h1]; rw [if_neg (fun e => e.elim h2 h3)]
  have hle : le ρ ρ' := by
    refine ⟨fun j l0 hl0 => ?_, Zae _, rfl⟩
    by_cases e1 : j = n
    · subst e1; rw [hρn] at hl0; cases hl0
    · by_cases e2 : j ∈ t :: ids ∨ j = r
      · exact .inr (hρ'd j e1 e2)
      · exact .inl ((hρ'o j e1 (fun e => e2 (.inl e)) (fun e => e2 (.inr e))).trans hl0)
  refine ⟨ρ', hle, ?_, ?_⟩
  · simp only [VR]
    exact ⟨_, cap', hveq, hcap1, some L', hρ'n, fun L'' e => by cases e; exact ⟨fun _ => by rw [hL'b, hL'0], by rw [hL'r]; omega⟩⟩
  have hHR : HR w0 S ρ' h' w' := by
    refine ⟨fun j hj => ?_, fun j row hj => ?_, fun j J hJ => ?_, fun j row J hj hro hJ => ?_, fun j k row J J' hj hne hro hJ hJ' => ?_, hfr, fun b q hb => ?_, fun j row J hj hro hJ => ?_, hh.cold⟩
    · rcases hcls j with ⟨_, e⟩ | ⟨_, _, e⟩ | ⟨e1, e2, e3, e4⟩
      · rw [e] at hj; cases hj
      · rw [e] at hj; cases hj
      · rw [hρ'o j e1 e2 e3]; exact hh.out j (by rw [← e4]; exact hj)
    · rcases hcls j with ⟨e1, e⟩ | ⟨e1, e2, e⟩ | ⟨e1, e2, e3, e4⟩
      · rw [e] at hj; cases hj
        subst e1
        refine .inr ⟨L', hρ'n, Nat.zero_le _, ?_⟩
        rw [if_neg (by simp)]
        exact ⟨rfl, fun q e' hq => by simp [cget] at hq⟩
      · rw [e] at hj; cases hj
        exact .inl ⟨rfl, by rw [hρ'd j e1 e2]; rfl⟩
      · rw [e4] at hj
        rw [hρ'o j e1 e2 e3]
        exact (hh.rows j row hj).imp id fun ⟨J, h1, h2⟩ => ⟨J, h1, (h2.same (hsame _ (hh.lt j J h1) (hBne j row J hj e3 h1))).mono hle⟩
    · rcases hcls j with ⟨e1, e⟩ | ⟨e1, e2, e⟩ | ⟨e1, e2, e3, e4⟩
      · subst e1; rw [hρ'n] at hJ; cases hJ; rw [hL'b]; exact hlt
      · rw [hρ'd j e1 e2] at hJ; cases hJ
      · rw [hρ'o j e1 e2 e3] at hJ; exact Nat.lt_of_lt_of_le (hh.lt j J hJ) hchg.size
    · rcases hcls j with ⟨e1, e⟩ | ⟨e1, e2, e⟩ | ⟨e1, e2, e3, e4⟩
      · rw [e] at hj; cases hj; cases hro
      · rw [hρ'd j e1 e2] at hJ; cases hJ
      · rw [e4] at hj; rw [hρ'o j e1 e2 e3] at hJ; exact hh.own j row J hj hro hJ
    · rcases hcls j with ⟨e1, e⟩ | ⟨e1, e2, e⟩ | ⟨e1, e2, e3, e4⟩
      · rw [e] at hj; cases hj; cases hro
      · rw [hρ'd j e1 e2] at hJ; cases hJ
      · rw [e4] at hj
        rw [hρ'o j e1 e2 e3] at hJ
        rcases hcls k with ⟨d1, d⟩ | ⟨d1, d2, d⟩ | ⟨d1, d2, d3, d4⟩
        · subst d1; rw [hρ'n] at hJ'; cases hJ'
          rw [hL'b]; exact hBne j row J hj e3 hJ
        · rw [hρ'd k d1 d2] at hJ'; cases hJ'
        · rw [hρ'o k d1 d2 d3] at hJ'; exact hh.apart j k row J J' hj hne hro hJ hJ'
    · refine (hsame b (hh.froz_lt hb) (fun e => by rw [e] at hb; have : ρ.F B' = some q := hb; rw [hFB] at this; cases this)).trans (hh.froz b q hb)
    · rcases hcls j with ⟨e1, e⟩ | ⟨e1, e2, e⟩ | ⟨e1, e2, e3, e4⟩
      · rw [e] at hj; cases hj; cases hro
      · rw [hρ'd j e1 e2] at hJ; cases hJ
      · rw [e4] at hj; rw [hρ'o j e1 e2 e3] at hJ; exact hh.ice j row J hj hro hJ
  classical
  let newB : Nat → Prop := fun b => ∃ (j : Nat) (K : Loc), j ∈ ids ∧ ρ j = some (some K) ∧ K.block = b
  let tg' : Nat → Option (Nat × Nat) := fun b => if b = B' then some (n, 0) else match tg b with
    | some (q, k) => if q = r then (if k = 0 then none else some (n, k)) else some (q, k)
    | none => if newB b then some (n, els.length + 1) else none
  have htgB : tg' B' = some (n, 0) := by simp only [tg', if_true]
  have htgR : ∀ b k, tg b = some (r, k + 1) → b ≠ B' ∧ tg' b = some (n, k + 1) := fun b k hb => by
    have hne : b ≠ B' := by
      rintro rfl
      rcases hB with hB | hB
      · have := (ht.inn b _ hb).1; omega
      · rw [hb] at hB; simp at hB
    exact ⟨hne, by simp only [tg', if_neg hne, hb]; simp⟩
  have htgO : ∀ b q k, tg b = some (q, k) → q ≠ r → b ≠ B' ∧ tg' b = some (q, k) := fun b q k hb hq => by
    have hne : b ≠ B' := by
      rintro rfl
      rcases hB with hB | hB
      · have := (ht.inn b _ hb).1; omega
      · rw [hb] at hB; simp at hB; exact hq hB.1
    exact ⟨hne, by simp only [tg', if_neg hne, hb]; rw [if_neg hq]⟩
  have htgN : ∀ b, newB b → b ≠ B' ∧ tg' b = some (n, els.length + 1) ∧ b < w.heap.size := fun b ⟨j, K, h1, h2, h3⟩ => by
    obtain ⟨row, K', q1, q2, q3, q4, q5⟩ := hidsrow j (List.mem_cons_of_mem _ h1)
    rw [h2] at q4; cases q4
    have hne : b ≠ B' := by rw [← h3]; exact hBne j row K q1 (by rintro rfl; exact hrid (List.mem_cons_of_mem _ h1)) h2
    have hno : tg b = none := by rw [← h3]; exact ht.out j row K q1 (Z9 q3) h2
    refine ⟨hne, ?_, by rw [← h3]; exact hh.lt j K h2⟩
    simp only [tg', if_neg hne, hno]
    rw [if_pos ⟨j, K, h1, h2, h3⟩]
  have hnewF : ∃ μn, Frag w0 S L' z els.length m w' μn (fun b => tg' b = some (n, els.length + 1)) := by
    rcases hform with ⟨hz, b, rr, hl, hid, hm⟩ | ⟨hz, o1, c1, q, hsubq, hm⟩
    · -- a pointer
      have hsub := hh.sub (ids := ids) (List.nodup_cons.1 hnd).2 fun i hi => (hids i (List.mem_cons_of_mem _ hi)).2
      generalize hμ : (RM.mk (fun j => if j < ids.length then ρ (ids.getD j 0) else none) (fun _ => none) fun _ => False) = μn at hsub
      have hμat : ∀ j J, μn j = some (some J) → ∃ i, i ∈ ids ∧ ρ i = some (some J) := fun j J hJ => by
        rw [← hμ] at hJ
        simp only at hJ
        split at hJ
        · rename_i hj
          exact ⟨_, (ZO (List.nodup_cons.1 hnd).2 hj).2.2, hJ⟩
        · cases hJ
      have hμF : μn.F = fun _ => none := by rw [← hμ]
      have hk := hsub.keep hμF hfr hchg.size fun j J hJ => by
        obtain ⟨i, hi, hJ⟩ := hμat j J hJ
        exact hsame _ (hh.lt i J hJ) (htgN _ ⟨i, J, hi, hJ, rfl⟩).1
      subst hm
      refine ⟨μn, hk, hμF, fun j row hj => (ZaR hok hj).1, fun h => absurd hz h, fun j row K h1 h2 h3 => ?_, fun _ => ?_, fun h => absurd hz h, fun j row hj => ZbJ hok hj⟩
      · obtain ⟨i, hi, hJ⟩ := hμat j K h3
        exact (htgN _ ⟨i, K, hi, hJ, rfl⟩).2.1
      · obtain ⟨o', c', q, e1, e2, _, _, e3, _⟩ := ZaB hok
        obtain ⟨b', rr', K, f1, f2, f3, f4, f5⟩ := hKb hz
        have hb : b' = b := by rw [f1] at hl; simpa using hl
        subst hb
        refine ⟨K, c', by rw [e1, e2 hz]; rfl, (e3 (o', c') (by rw [e1]; simp)).1, ?_, f4, ?_⟩
        · rw [← hμ, hid]; simpa using f3
        · rw [← hL']; simp only [if_true]; exact f5
    · -- cells
      have hsub := hh.sub (ids := t :: ids) hnd fun i hi => (hids i hi).2
      generalize hμ : (RM.mk (fun j => if j < (t :: ids).length then ρ ((t :: ids).getD j 0) else none) (fun _ => none) fun _ => False) = μn at hsub
      have hμF : μn.F = fun _ => none := by rw [← hμ]
      have hzz' : zz = z := hzz1 hz
      rw [hsubq] at hsub
      have hmq : mh ((o1, c1) :: q) = ⟨o1, c1⟩ :: mh q := rfl
      rw [hmq] at hsub
      have hc1 : c1 = .agg (renL (ZT (t :: ids)) l) := by
        have : (Zac h (t :: ids))[0]? = some (o1, c1) := by rw [hsubq]; rfl
        simp only [Zac, List.map_cons, List.getElem?_cons_zero, Option.some.injEq, Prod.mk.injEq] at this
        rw [← this.2]
        have hg : Zo h t = ⟨true, .agg l⟩ := by unfold Zo; rw [List.getD_eq_getElem?_getD, htr]; rfl
        rw [hg]
        simp [Zr, ren]
      subst hm
      rw [hc1] at hok hsub ⊢
      have hμat : ∀ j J, j ≠ 0 → μn j = some (some J) → ∃ i, i ∈ ids ∧ ρ i = some (some J) := fun j J hj0 hJ => by
        rw [← hμ] at hJ
        simp only at hJ
        split at hJ
        · rename_i hj
          cases j with
          | zero => exact absurd rfl hj0
          | succ j =>
            simp only [List.getD_cons_succ] at hJ
            simp only [List.length_cons, Nat.succ_lt_succ_iff] at hj
            exact ⟨_, (ZO (List.nodup_cons.1 hnd).2 hj).2.2, hJ⟩
        · cases hJ
      have hσ : ∀ r s l0, ZT (t :: ids) r = some s → ρ r = some l0 → μn s = some l0 ∨ μn s = some none := fun r s l0 hs hl0 => by
        unfold ZT at hs
        split at hs
        · rename_i hi
          simp only [Option.some.injEq] at hs
          obtain ⟨p, q⟩ := Zaw (l := t :: ids) (by simpa using hi)
          left
          rw [← hμ]
          simp only
          rw [← hs, if_pos p, q]
          exact hl0
        · cases hs
      have hnoFl : noFL l = true := by
        have := (hids t (by simp)).2
        have hg : Zo h t = ⟨true, .agg l⟩ := by unfold Zo; rw [List.getD_eq_getElem?_getD, htr]; rfl
        rw [hg] at this
        simpa [noF] using this
      have hoff0 : 0 ∉ ptrs (EV.agg (renL (ZT (t :: ids)) l)) := Zcl hok hz (j := 0) (row := ⟨false, .agg (renL (ZT (t :: ids)) l)⟩) rfl
      have hRoot : RowR (updM μn 0 (some ⟨B', els.length * z, z, fun _ => 0⟩)) ⟨false, .agg (renL (ZT (t :: ids)) l)⟩ ⟨B', els.length * z, z, fun _ => 0⟩ w' := by
        refine ⟨by simp only [clen, Zck, List.length_map]; omega, ?_⟩
        rw [if_neg (by simp)]
        refine ⟨rfl, fun j e hj => ?_⟩
        have hj0 := hj
        simp only [cget, Zck, List.getElem?_map, Option.map_eq_some_iff] at hj
        obtain ⟨e0, he0, rfl⟩ := hj
        have hjl : j < z := by have := (List.getElem?_eq_some_iff.1 he0).1; omega
        obtain ⟨u, hu1, hu2⟩ := n4 j e0 he0
        refine ⟨u, ?_, n3 u (List.mem_of_getElem? hu1), Ziy (fun r hr => ZA hr) (fun h0 => hoff0 ?_) ?_ (Zfo hσ e0 u (Zc3 hnoFl j e0 he0) hu2)⟩
        · have := hnews j (by omega)
          rw [hzz'] at this
          simp only
          rw [this]; exact hu1
        · simp only [cget] at hj0
          exact ZgO hj0 h0
        · have hp := (ZaR hok (j := 0) (row := ⟨false, .agg (renL (ZT (t :: ids)) l)⟩) rfl).1.2
          have hn2 : noFL (renL (ZT (t :: ids)) l) = true := by simpa [noF] using hp
          simp only [cget] at hj0
          exact Zc3 hn2 j _ hj0
      have hR := hsub.root hμF (fun j row hj => ⟨ZbJ hok (j := j) (row := row) (by simpa [mh] using hj), (ZaR hok (j := j + 1) (row := row) (by simpa [mh] using hj)).1.2, Zcl hok hz (j := j + 1) (row := row) (by simpa [mh] using hj)⟩) hRoot (fun j J hj0 hJ => by
        obtain ⟨i, hi, hJ⟩ := hμat j J hj0 hJ
        have := htgN _ ⟨i, J, hi, hJ, rfl⟩
        exact ⟨hsame _ this.2.2 this.1, this.1⟩) hlt hfr hchg.size
      refine ⟨_, hR, hμF, fun j row hj => (ZaR hok hj).1, fun _ j row hj => Zcl hok hz hj, fun j row K h1 h2 h3 => ?_, fun h => absurd h hz, fun _ => ⟨_, _, rfl, by simp only [Zck, List.length_map]; omega, ZJ _ _ _, rfl, hL'b.symm⟩, fun j row hj => ZbJ hok hj⟩
      by_cases e : j = 0
      · subst e
        simp [mh] at h1
        rw [← h1] at h2; cases h2
      · rw [ZA e] at h3
        obtain ⟨i, hi, hJ⟩ := hμat j K e h3
        exact (htgN _ ⟨i, K, hi, hJ, rfl⟩).2.1
  obtain ⟨μn, hFn⟩ := hnewF
  refine ⟨hHR, fun r' k => if r' = n then (if k = els.length then μn else if z = 0 then mu r k else updM (mu r k) 0 (some ⟨L'.block, k * z, z, fun _ => 0⟩)) else mu r' k, tg', fun j row hj htr' => ?_, fun r' z' els' hr' => ?_, fun j row J hj htr' hJ => ?_, fun b x hx => ?_⟩
  · rcases hcls j with ⟨e1, e⟩ | ⟨e1, e2, e⟩ | ⟨e1, e2, e3, e4⟩
    · rw [e] at hj; cases hj; rfl
    · rw [e] at hj; cases hj; cases htr'
    · exact ht.ro j row (by rw [← e4]; exact hj) htr'
  · rcases hcls r' with ⟨e1, e⟩ | ⟨e1, e2, e⟩ | ⟨e1, e2, e3, e4⟩
    · rw [e] at hr'
      simp only [Option.some.injEq, Row.mk.injEq, EV.tree.injEq, true_and] at hr'
      obtain ⟨rfl, rfl⟩ := hr'
      subst e1
      refine ⟨L', hρ'n, hL'0, by rw [hL'b]; exact htgB, ⟨cs', t', by rw [hL'b]; exact hw', by rw [hL'r]; exact hroom, ?_⟩, fun hz i hi => ?_, fun i mi hmi => ?_⟩
      · rw [hL'r, List.length_append, List.length_singleton, hzzp]
        exact Nat.le_trans (Nat.mul_le_mul_right _ hcap1) hcap2
      · have hzz1 : zz = 1 := hzz0 hz
        rw [List.length_append, List.length_singleton] at hi
        rw [hL'b]
        by_cases hik : i = els.length
        · obtain ⟨b, rr, K, f1, f2, f3, f4, f5⟩ := hKb hz
          obtain ⟨u, hu1, hu2⟩ := n4 0 (.ptr b 0) (by rw [f1]; rfl)
          have h0 := hnews 0 (by omega)
          rw [hzz1, Nat.mul_one, Nat.add_zero] at h0
          rw [hik, h0, hu1]
          have := Zey hu2 f3
          rw [this, f4, f5, ← hL']
          simp
        · rw [hcell i (by rw [hzz1]; omega)]
          rcases hold with ⟨he, _⟩ | ⟨_, _, _, hlk, _⟩
          · rw [he] at hi hik; simp at hi hik; omega
          · rw [hlk hz i (by omega), ← hL']
            simp only
            rw [if_neg hik]
      · rw [if_pos rfl]
        by_cases hik : i = els.length
        · rw [if_pos hik]
          subst hik
          rw [List.getElem?_append_right (Nat.le_refl _), Nat.sub_self, List.getElem?_cons_zero] at hmi
          cases hmi
          exact hFn
        · rw [if_neg hik]
          have hil : i < els.length := by
            have := (List.getElem?_eq_some_iff.1 hmi).1
            rw [List.length_append, List.length_singleton] at this; omega
          rw [List.getElem?_append_left hil] at hmi
          rcases hold with ⟨he, _⟩ | ⟨_, _, hLb, _, hfs⟩
          · rw [he] at hil; simp at hil
          · have hF := hfs i mi hmi
            refine hF.move hfr hchg.size (fun b hb => ⟨hsame b (ht.inn b _ hb).1 (htgR b i hb).1, by rw [hL'b]; exact (htgR b i hb).1⟩) (fun b hb => (htgR b i hb).2) (fun hz => ?_) (fun j hj => ?_) (by rw [hL'b]; exact hlt)
            · rw [← hL']; simp only; rw [if_neg hik]
            · rw [hL'b]
              by_cases hz : z = 0
              · rw [hz] at hj; omega
              have hzz' : zz = z := hzz1 hz
              refine hcell _ ?_
              rw [hzz']
              have : (i + 1) * z ≤ els.length * z := Nat.mul_le_mul_right _ hil
              rw [Nat.add_mul] at this
              omega
    · rw [e] at hr'; cases hr'
    · rw [e4] at hr'
      obtain ⟨L0, q1, q2, q3, ⟨c', t'', q4, q5, q6⟩, q7, q8⟩ := ht.list r' z' els' hr'
      have hO := htgO _ _ _ q3 e3
      have hwL := hsame L0.block (ht.inn _ _ q3).1 hO.1
      refine ⟨L0, by rw [hρ'o r' e1 e2 e3]; exact q1, q2, hO.2, ⟨c', t'', hwL.trans q4, q5, q6⟩, fun hz k hk => ?_, fun k mk hk => ?_⟩
      · have := q7 hz k hk
        simpa [World.cell?, hwL] using this
      · rw [if_neg e1]
        exact ((q8 k mk hk).keep hfr hchg.size hwL fun b hb => hsame b (ht.inn b _ hb).1 (htgO b _ _ hb e3).1).mono fun b hb => (htgO b _ _ hb e3).2
  · rcases hcls j with ⟨e1, e⟩ | ⟨e1, e2, e⟩ | ⟨e1, e2, e3, e4⟩
    · rw [e] at hj; cases hj; cases htr'
    · rw [hρ'd j e1 e2] at hJ; cases hJ
    · rw [e4] at hj
      rw [hρ'o j e1 e2 e3] at hJ
      have h1 := ht.out j row J hj htr' hJ
      have h2 := hBne j row J hj e3 hJ
      simp only [tg', if_neg h2, h1]
      rw [if_neg]
      rintro ⟨i, K, hi, hK, hb⟩
      obtain ⟨row', K', q1, q2, q3, q4, q5⟩ := hidsrow i (List.mem_cons_of_mem _ hi)
      exact hh.apart i j row' K J q1 (by rintro rfl; exact e2 (List.mem_cons_of_mem _ hi)) q2 hK hJ hb
  · by_cases hb : b = B'
    · subst hb
      exact ⟨hlt, hFB, hBS⟩
    · simp only [tg', if_neg hb] at hx
      cases htb : tg b with
      | some y =>
        obtain ⟨b1, b2, b3⟩ := ht.inn b y htb
        exact ⟨Nat.lt_of_lt_of_le b1 hchg.size, b2, b3⟩
      | none =>
        rw [htb] at hx
        simp only at hx
        split at hx
        · rename_i hnB
          obtain ⟨j, K, hj, hK, rfl⟩ := hnB
          obtain ⟨row, K', q1, q2, q3, q4, q5⟩ := hidsrow j (List.mem_cons_of_mem _ hj)
          exact ⟨Nat.lt_of_lt_of_le (hh.lt j K hK) hchg.size, hh.ice j row K q1 q2 hK, hh.own j row K q1 q2 hK⟩
        · cases hx
end
end Go.Sx
