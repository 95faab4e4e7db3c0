/-
  An element appended to a list whose elements have heaps of their own. Conditions: none.
-/
import Derived.Test.YtlbfafbhflblcaaSx8
namespace Go.Sx
open Go
set_option linter.unusedVariables false
set_option linter.unusedSimpArgs false
section
variable {P : Program} {call : ZS} {a : Act} {w w0 : World} {S : List Nat} {σ : Nat → EV} {ρ : RM} {h : List Row} {n : Nat}
theorem Zkm {o : Oper} {s x : Operand} {t e' : TypeId} {i : TypeInfo} {zv : EV} (ho : o.op = .call { callee := .builtin .append, args := #[s, x], argTypes := #[t, t] }) (ht : P.underlying t = some (.slice e')) (hi : P.info? e' = some i)
    (hz : ZcS P e' = some zv) (hzl : clen zv = i.size) (hpos : 0 < i.size) (hb0 : 0 < i.bytes) {m B room : Nat} {cs : Array Value} {et : TypeId}
    (hs : (a.eval s = .slice none 0 0 ∧ m = 0) ∨ (∃ pa cap, a.eval s = .slice (some pa) m cap ∧ m ≤ cap ∧ (cap ≠ 0 → pa = ⟨B, 0, none⟩) ∧ cap * i.size ≤ room ∧ w.heap[B]? = some (.cells cs et (0, 0)) ∧ room ≤ cs.size ∧ m * i.size ≤ room))
    (hbnd : (m + 1) * i.bytes ≤ 70368744177664) {p : Addr} {c : Nat} (hx : a.eval x = .slice (some p) 1 c) {news : List Value} (n1 : news.length = 1 * i.size) (n2 : ∀ (j : Nat) (u : Value), news[j]? = some u → w.cell? (p.add j) = some u) (n3 : ∀ u ∈ news, u.oneCell' = true) :
    ∃ (v : Value) (w' : World) (B' room' : Nat) (cs' : Array Value) (t' : TypeId), (execOp a.eval o).run P w = .ok (.value v) w' ∧ (∃ cap', v = .slice (some ⟨B', 0, none⟩) (m + 1) cap' ∧ m + 1 ≤ cap' ∧ cap' * i.size ≤ room') ∧
      w'.heap[B']? = some (.cells cs' t' (0, 0)) ∧ room' ≤ cs'.size ∧ (∀ j, j < m * i.size → cs'[j]? = cs[j]?) ∧ (∀ j, j < i.size → cs'[m * i.size + j]? = news[j]?) ∧ Chg w w' B' ∧ (w.heap.size ≤ B' ∨ (B' = B ∧ m + 1 ≤ room)) ∧ B' < w'.heap.size := by
  obtain ⟨zval, _, hzv, i', hi', hzi⟩ := Zc0 hz w
  rw [hi] at hi'; cases hi'
  have hzs : zval.cells.size = i.size := by rw [Zc1 hzv, hzl]
  have hzc : ∀ k, (Builtin.zeroCells zval.cells k).size = k * i.size := fun k => by simp [Builtin.zeroCells, hzs]
  have h63 : m + 1 ≤ 70368744177664 := Nat.le_trans (Nat.le_mul_of_pos_right _ hb0) hbnd
  have hmk : (m + 1) * i.size = m * i.size + 1 * i.size := Nat.add_mul _ _ _
  rcases hs with ⟨hsv, rfl⟩ | ⟨pa, cap, hsv, hmc, hpa, hcr, hg, hrs, hmr⟩
  · have hrun := run_append_nil (P := P) w t o.type e' i zval ht hi hzi p 1 c news n1 n2 (by omega) (by omega) (by omega)
    have hcap := grownCap_ge w 1 0 e'
    refine ⟨_, _, w.heap.size, _, news.toArray ++ Builtin.zeroCells zval.cells (grownCap w 1 0 e' - 1), e', Zao ho (by rw [hsv, hx]; exact hrun), ⟨_, rfl, hcap, Nat.le_refl _⟩, heap_alloc_new w.drew _, ?_, fun j hj => by omega, fun j hj => ?_, ⟨rfl, rfl, rfl, by simp, fun k hk _ => heap_alloc_old w.drew _ hk⟩, .inl (Nat.le_refl _), by simp⟩
    · simp only [Array.size_append, List.size_toArray, n1, hzc]
      rw [← Nat.add_mul]
      exact Nat.mul_le_mul_right _ (by omega)
    · rw [Nat.zero_mul, Nat.zero_add, Array.getElem?_append_left (by simp; omega)]
      simp
  · by_cases hroomy : m + 1 ≤ cap
    · rw [hpa (by omega)] at hsv
      have hcapsz : (m + 1) * i.size ≤ room := Nat.le_trans (Nat.mul_le_mul_right _ hroomy) hcr
      have hrun := ZdC (P := P) (ty := o.type) ht hi B m cap p 1 c cs et news hg n1 n2 n3 hroomy (by rw [n1]; omega)
      have hget : ∀ j, (cs.toList.take (m * i.size) ++ news ++ cs.toList.drop (m * i.size + news.length)).toArray[j]? = if m * i.size ≤ j ∧ j < m * i.size + news.length then news[j - m * i.size]? else cs[j]? := by
        intro j
        have := Zdq cs.toList news (m * i.size) j (by rw [n1]; simp; omega)
        simp only [List.getElem?_toArray, List.append_assoc]
        rw [this]
        split <;> simp
      refine ⟨_, _, B, room, _, et, Zao ho (by rw [hsv, hx]; exact hrun), ⟨_, rfl, hroomy, hcr⟩, setRow_heap _ _ _ _ _ _ hg, ?_, fun j hj => ?_, fun j hj => ?_, Zfl _ _, .inr ⟨rfl, ?_⟩, ?_⟩
      · simp [n1]; omega
      · rw [hget j, if_neg (by omega)]
      · rw [hget, if_pos (by omega), Nat.add_sub_cancel_left]
      · exact Nat.le_trans (Nat.le_mul_of_pos_right _ hpos) hcapsz
      · have := (Array.getElem?_eq_some_iff.1 hg).1
        simpa [World.setRow] using this
    · have holds : ∀ (j : Nat) (u : Value), (cs.toList.take (m * i.size))[j]? = some u → w.cell? (pa.add j) = some u := fun j u hj => by
        have hjm : j < m * i.size := by
          have := (List.getElem?_eq_some_iff.1 hj).1
          rw [List.length_take] at this; omega
        have hm0 : 0 < m := by
          rcases Nat.eq_zero_or_pos m with h | h
          · rw [h] at hjm; simp at hjm
          · exact h
        rw [hpa (by omega), Zak]
        rw [List.getElem?_take_of_lt hjm] at hj
        simp only [World.cell?, Nat.zero_add, hg]
        simpa using hj
      have hrun := run_append_grow (P := P) w t o.type e' i zval ht hi hzi pa m cap (cs.toList.take (m * i.size)) (by rw [List.length_take]; simp; omega) holds p 1 c news n1 n2 (by omega) (by omega) (by
        have := nextslicecap_le (need := m + 1) (old := cap) (by omega)
        have h5 : Builtin.nextslicecap (m + 1) cap * i.bytes ≤ 2 * (m + 1) * i.bytes := Nat.mul_le_mul_right _ this
        have h6 : 2 * (m + 1) * i.bytes = 2 * ((m + 1) * i.bytes) := by rw [Nat.mul_assoc]
        omega)
      have hcap := grownCap_ge w (m + 1) cap e'
      have hol : (cs.toList.take (m * i.size)).length = m * i.size := by rw [List.length_take]; simp; omega
      refine ⟨_, _, w.heap.size, _, (cs.toList.take (m * i.size)).toArray ++ news.toArray ++ Builtin.zeroCells zval.cells (grownCap w (m + 1) cap e' - (m + 1)), e', Zao ho (by rw [hsv, hx]; exact hrun), ⟨_, rfl, hcap, Nat.le_refl _⟩, heap_alloc_new w.drew _, ?_, fun j hj => ?_, fun j hj => ?_, ⟨rfl, rfl, rfl, by simp, fun k hk _ => heap_alloc_old w.drew _ hk⟩, .inl (Nat.le_refl _), by simp⟩
      · simp only [Array.size_append, List.size_toArray, hol, n1, hzc]
        rw [← Nat.add_mul, ← Nat.add_mul]
        exact Nat.mul_le_mul_right _ (by omega)
      · rw [Array.append_assoc, Array.getElem?_append_left (by simp only [List.size_toArray]; omega), List.getElem?_toArray, List.getElem?_take_of_lt hj]
        simp
      · rw [Array.append_assoc, Array.getElem?_append_right (by simp only [List.size_toArray]; omega), Array.getElem?_append_left (by simp only [List.size_toArray]; omega)]
        simp only [List.size_toArray, hol, Nat.add_sub_cancel_left, List.getElem?_toArray]
end
end Go.Sx
