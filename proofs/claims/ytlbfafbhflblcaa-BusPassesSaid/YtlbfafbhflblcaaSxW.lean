/-
  Loops of leaves, in plain Lean. Conditions: none.
-/
import Derived.Test.YtlbfafbhflblcaaSxV
namespace Go.Sx
open Go
set_option linter.unusedVariables false
theorem Zl0 {n : Nat} (h : n < 18446744073709551616) : n < Zbg := by
  have : Zbg = 36893488147419103232 := rfl
  omega
theorem ZkT {m : Nat} {f : Nat × List Leaf → Option (Nat × List Leaf)} {s s' : Nat × List Leaf} (h : f s = some s') (hm : s'.1 < m) (n : Nat) : Ze4 m f (n + 1) s = Ze4 m f n s' := by
  obtain ⟨j, r⟩ := s'
  simp only at hm
  simp only [Ze4, h]
  rw [if_pos hm]
theorem ZkU {m : Nat} {f : Nat × List Leaf → Option (Nat × List Leaf)} {s : Nat × List Leaf} {j : Nat} {r : List Leaf} (h : f s = some (m + j, r)) (n : Nat) : Ze4 m f (n + 1) s = some (j, r) := by
  simp only [Ze4, h]
  rw [if_neg (by omega), Nat.add_sub_cancel_left]
theorem Zhf {m : Nat} {f : Nat × List Leaf → Option (Nat × List Leaf)} (S : Nat → Nat × List Leaf) {j : Nat} {r : List Leaf} : ∀ (N k fuel : Nat), (∀ i, k ≤ i → i < k + N → f (S i) = some (S (i + 1)) ∧ (S (i + 1)).1 < m) → f (S (k + N)) = some (m + j, r) → N < fuel → Ze4 m f fuel (S k) = some (j, r)
  | 0, k, 0, _, _, hf => absurd hf (Nat.lt_irrefl _)
  | 0, k, fuel + 1, _, he, _ => ZkU (by rw [Nat.add_zero] at he; exact he) _
  | N + 1, k, 0, _, _, hf => absurd hf (Nat.not_lt_zero _)
  | N + 1, k, fuel + 1, hs, he, hf => by
    obtain ⟨h1, h2⟩ := hs k (Nat.le_refl _) (by omega)
    rw [ZkT h1 h2]
    exact Zhf S N (k + 1) fuel (fun i hi hl => hs i (by omega) (by omega)) (by rw [← he]; congr 2; omega) (by omega)
theorem Zp {m : Nat} {f : Nat × List Leaf → Option (Nat × List Leaf)} (S : Nat → Nat × List Leaf) (N : Nat) {j : Nat} {r : List Leaf} (hs : ∀ k, k < N → f (S k) = some (S (k + 1)) ∧ (S (k + 1)).1 < m) (he : f (S N) = some (m + j, r)) (hN : N < 18446744073709551616) : ZbN m f (S 0) = some (j, r) :=
  Zhf S N 0 Zbg (fun i _ h => hs i (by omega)) (by rw [Nat.zero_add]; exact he) (Zl0 hN)
theorem ZeU {f : Nat × List Leaf → Option (Nat × List Leaf)} (S : Nat → List Leaf) (N : Nat) {j : Nat} {r : List Leaf} (hs : ∀ k, k < N → f (0, S k) = some (0, S (k + 1))) (he : f (0, S N) = some (j + 1, r)) (hN : N < 18446744073709551616) : ZbN 1 f (0, S 0) = some (j, r) :=
  Zp (fun k => (0, S k)) N (fun k hk => ⟨hs k hk, Nat.zero_lt_one⟩) (by rw [Nat.add_comm]; exact he) hN
def ZeV (s : Nat × List Leaf) : Option (Nat × List Leaf) := match s.1 with
  | 0 => asE s.2 (some (0, [.b true])) none
  | _ => none
def ZkV : Ent := ⟨[⟨[], []⟩], [⟨.bool, [], []⟩], ZeV⟩
theorem ZhO {C : ZS} {f : FuncId} (h : C f [] [] = some (.bool true, [], [])) : Zq C f ZkV := by
  intro i ls j r sh args hh hL hi hu
  match i, hi with
  | 0, hi =>
    cases hi
    have hl : ls = [] := by
      cases ls with
      | nil => rfl
      | cons a b => cases hL
    subst hl
    have e : some (0, [Leaf.b true]) = some (j, r) := hL
    simp only [Option.some.injEq, Prod.mk.injEq] at e
    obtain ⟨rfl, rfl⟩ := e
    have ha : args = [] := by
      cases args with
      | nil => rfl
      | cons a b => simp [ZeT, ZbR] at hu
    have hr : hh = [] := by
      cases hh with
      | nil => rfl
      | cons a b => subst ha; simp [ZeT, ZbR, ZdP] at hu
    subst ha hr
    exact ⟨_, _, h, rfl, rfl⟩
  | i + 1, hi => cases hi
theorem Zdf : ZeV (0, []) = some (0, [.b true]) := rfl
theorem ZH {α β : Type} (b : β) (K : β → α) (z : α) : optK (some b) K z = K b := rfl
theorem Zau {α β : Type} (K : β → α) (z : α) : optK (none : Option β) K z = z := rfl
theorem ZkW {f : Nat × List Leaf → Option (Nat × List Leaf)} (S : Nat → List Leaf) (p : Nat → Bool) {r1 r2 : List Leaf} (N : Nat) (hs : ∀ k, k < N → p k = true → f (0, S k) = some (0, S (k + 1))) (hf : ∀ k, k < N → p k = false → f (0, S k) = some (2, r2)) (he : f (0, S N) = some (1, r1)) (hN : N < 18446744073709551616) :
    ZbN 1 f (0, S 0) = if (List.range N).all p then some (0, r1) else some (1, r2) := by
  by_cases h : (List.range N).all p = true
  · rw [if_pos h]
    exact ZeU S N (fun k hk => hs k hk (List.all_eq_true.1 h k (List.mem_range.2 hk))) he hN
  · rw [if_neg h]
    have hex : ∃ k, k < N ∧ p k = false := by
      rw [List.all_eq_true] at h
      have h := Classical.not_forall.1 h
      obtain ⟨k, hk⟩ := h
      rw [Classical.not_imp, List.mem_range] at hk
      exact ⟨k, hk.1, by simpa using hk.2⟩
    obtain ⟨k, hk, hpk, hmin⟩ : ∃ k, k < N ∧ p k = false ∧ ∀ i, i < k → p i = true := by
      obtain ⟨k, hk, hp⟩ := hex
      induction k using Nat.strongRecOn with
      | _ k ih =>
        by_cases hall : ∀ i, i < k → p i = true
        · exact ⟨k, hk, hp, hall⟩
        · obtain ⟨i, hi⟩ := Classical.not_forall.1 hall
          rw [Classical.not_imp] at hi
          exact ih i hi.1 (by omega) (by simpa using hi.2)
    exact ZeU S k (fun i hi => hs i (by omega) (hmin i hi)) (hf k hk hpk) (by omega)
theorem wrap64 {x : Int} (h1 : -9223372036854775808 ≤ x) (h2 : x ≤ 9223372036854775807) : IntKind.i64.wrap x = x := IntWalk.i64_in _ (by omega)
theorem Z6 {n : Nat} (h : n < 9223372036854775808) : IntKind.i64.wrap (n : Int) = n := wrap64 (by omega) (by omega)
theorem ZbO {l : List Int} {i : Nat} (h : i < l.length) : l[i]? = some (l.getD i 0) := by simp [h]
def mix {α : Type} (v q : List α) (k : Nat) : List α := v.take k ++ q.drop k
theorem Zbw {α : Type} (r : List Leaf) (k k1 k2 k3 k4 : List Leaf → α) (ks : List (List Leaf → α)) (z : α) : altK (some (4, r)) (k :: k1 :: k2 :: k3 :: k4 :: ks) z = k4 r := rfl
theorem ZdR {α : Type} (r : List Leaf) (k k1 k2 k3 k4 k5 : List Leaf → α) (ks : List (List Leaf → α)) (z : α) : altK (some (5, r)) (k :: k1 :: k2 :: k3 :: k4 :: k5 :: ks) z = k5 r := rfl
theorem ZdS {α : Type} (r : List Leaf) (k k1 k2 k3 k4 k5 k6 : List Leaf → α) (ks : List (List Leaf → α)) (z : α) : altK (some (6, r)) (k :: k1 :: k2 :: k3 :: k4 :: k5 :: k6 :: ks) z = k6 r := rfl
section
variable {α : Type}
def Zhg : List Bool → List (List Leaf → α) → α → List (List Leaf → α)
  | [], ks, z => ks
  | _ :: _, [], z => []
  | b :: m, k :: ks, z => cond b k (fun _ => z) :: Zhg m ks z
theorem ZeW : ∀ {m : List Bool} {ks : List (List Leaf → α)} {z : α} {j : Nat} {k : List Leaf → α}, ks[j]? = some k → (Zhg m ks z)[j]? = some k ∨ (Zhg m ks z)[j]? = some (fun _ => z)
  | [], ks, z, j, k, h => .inl h
  | _ :: _, [], z, j, k, h => by cases h
  | b :: m, x :: ks, z, 0, k, h => by
    simp only [List.getElem?_cons_zero, Option.some.injEq] at h
    subst h
    cases b
    · exact .inr rfl
    · exact .inl rfl
  | b :: m, x :: ks, z, j + 1, k, h => by
    simp only [List.getElem?_cons_succ] at h
    simp only [Zhg, List.getElem?_cons_succ]
    exact ZeW h
def Zm5 (e : Ent) (m : List (List Bool)) (args : List EV) (h : List Row) (K : EV × List Row × List Nat → α) (z : α) : α :=
  Zju e.ins args h 0 (fun i ls => altK (e.L (i, ls)) (Zhg (m.getD i []) (e.outs.map fun p r => Zbc p r K z) z) z) z
theorem Zl1 {C : ZS} {f : FuncId} {e : Ent} (he : Zq C f e) {m : List (List Bool)} {args : List EV} {h : List Row} {K : EV × List Row × List Nat → α} {z : α} : ZK (Zm5 e m args h K z) (C f args h) K z := by
  unfold Zm5
  rcases Zdv (l := e.ins) (args := args) (h := h) (k := 0) (K := fun i ls => altK (e.L (i, ls)) (Zhg (m.getD i []) (e.outs.map fun p r => Zbc p r K z) z) z) (z := z) with h0 | ⟨i, sh, ls, h1, h2, h3⟩
  · exact .inl h0
  · rw [h3, Nat.zero_add]
    cases hL : e.L (i, ls) with
    | none => exact .z
    | some p =>
      obtain ⟨j, r⟩ := p
      obtain ⟨x, q, e1, e2, e3⟩ := he i ls j r sh args h hL h1 h2
      have hk : (e.outs.map fun p r => Zbc p r K z)[j]? = some (fun r => Zbc q r K z) := by rw [List.getElem?_map, e2]; rfl
      rcases ZeW (m := m.getD i []) (z := z) hk with h4 | h4
      · refine .inr ⟨x, e1, ?_⟩
        rw [Zb7, h4]
        exact Zge e3 _ _
      · refine .inl ?_
        rw [Zb7, h4]
def Zz (es : List (FuncId × Ent × List (List Bool))) : CallK := ⟨fun α f args h K z => go es f args h K z, fun α f s m as K z => got es f s m as K z⟩
where
  go {α : Type} : List (FuncId × Ent × List (List Bool)) → FuncId → List EV → List Row → (EV × List Row × List Nat → α) → α → α
    | [], f, args, h, K, z => z
    | (g, e, m) :: r, f, args, h, K, z => cond (f == g) (Zm5 e m args h K z) (go r f args h K z)
  got {α : Type} : List (FuncId × Ent × List (List Bool)) → FuncId → Nat → ME → List EV → (Int → Int → ME → α) → α → α
    | [], f, s, m, as, K, z => z
    | (g, e, _) :: r, f, s, m, as, K, z => cond (f == g) (trK (trE e s m as) K z) (got r f s m as K z)
theorem Zu {C : ZS} : Zx (Zz []) C := ⟨fun α g args hh K z => .z, fun α f s m as K z => .inl rfl⟩
theorem Zf {C : ZS} {f : FuncId} {e : Ent} {m : List (List Bool)} {es : List (FuncId × Ent × List (List Bool))} (h : Zq C f e) (hr : Zx (Zz es) C) : Zx (Zz ((f, e, m) :: es)) C := by
  refine ⟨fun α g args hh K z => ?_, fun α g s m' as K z => ?_⟩
  · show ZK (Zz.go ((f, e, m) :: es) g args hh K z) _ _ _
    unfold Zz.go
    refine .cond (fun e' => ?_) fun _ => hr.1 α g args hh K z
    rw [beq_iff_eq] at e'
    subst e'
    exact Zl1 h
  · show Zz.got ((f, e, m) :: es) g s m' as K z = z ∨ ∃ x y m2, ZbA C g s m' as = some (.ints .i64 [x, y], m2) ∧ Zz.got ((f, e, m) :: es) g s m' as K z = K x y m2
    unfold Zz.got
    cases hg : g == f with
    | true =>
      rw [beq_iff_eq] at hg
      subst hg
      exact ZnI h
    | false => exact hr.2 α g s m' as K z
def Zm6 (o : Orc) (m : List (List Bool)) (st : St) (K : SX × St → α) (z : α) : α :=
  Zhd o.ins st 0 (fun i ls => altK (o.L (i, ls)) (Zhg (m.getD i []) (o.outs.map fun p r => ZaJ p.2 r (fun st' => K (p.1, st')) z) z) z) z
theorem Zl2 {C : ZS} {a : SC} {o : Orc} (h : ZU C a o) {m : List (List Bool)} {st : St} {K : SX × St → α} {z : α} : ZK (Zm6 o m st K z) (evC C a st) K z := by
  unfold Zm6
  rcases ZeS (l := o.ins) (st := st) (k := 0) (K := fun i ls => altK (o.L (i, ls)) (Zhg (m.getD i []) (o.outs.map fun p r => ZaJ p.2 r (fun st' => K (p.1, st')) z) z) z) (z := z) with e | ⟨i, sh, ls, h1, h2, h3⟩
  · exact .inl e
  · rw [h3, Nat.zero_add]
    cases hL : o.L (i, ls) with
    | none => exact .z
    | some p =>
      obtain ⟨j, r⟩ := p
      obtain ⟨x, st', q, e1, e2, e3⟩ := h i ls j r sh st hL h1 h2
      have hk : (o.outs.map fun p r => ZaJ p.2 r (fun st' => K (p.1, st')) z)[j]? = some (fun r => ZaJ q r (fun st' => K (x, st')) z) := by rw [List.getElem?_map, e2]; rfl
      rcases ZeW (m := m.getD i []) (z := z) hk with h4 | h4
      · refine .inr ⟨(x, st'), e1, ?_⟩
        rw [Zb7, h4]
        exact Zgd e3 _ _
      · refine .inl ?_
        rw [Zb7, h4]
end
def Zg (os : List (Orc × List (List Bool))) : OrcK := fun α i st K z => match os[i]? with
  | some (o, m) => Zm6 o m st K z
  | none => z
theorem Z2 {os : List (Orc × List (List Bool))} {C : ZS} {i : Nat} {a : SC} {o : Orc} {m : List (List Bool)} (hi : os[i]? = some (o, m)) (h : ZU C a o) : ∀ (α : Type) (st : St) (K : SX × St → α) (z : α), ZK (Zg os α i st K z) (evC C a st) K z := by
  intro α st K z
  unfold Zg
  rw [hi]
  exact Zl2 h
end Go.Sx
