/-
  Loops of leaves, in plain Lean. Conditions: none.
-/
import Derived.Test.YthofmhnbncopjaaSxV
namespace Go.Sx
open Go
set_option linter.unusedVariables false

theorem fuel_pos {n : Nat} (h : n < 18446744073709551616) : n < loopFuel := by
  have : loopFuel = 36893488147419103232 := rfl
  omega
/-- A loop whose state after k rounds is known. -/
theorem loop_step {m : Nat} {f : Nat × List Leaf → Option (Nat × List Leaf)} {s s' : Nat × List Leaf} (h : f s = some s') (hm : s'.1 < m) (n : Nat) : iterL m f (n + 1) s = iterL m f n s' := by
  obtain ⟨j, r⟩ := s'
  simp only at hm
  simp only [iterL, h]
  rw [if_pos hm]
theorem loop_last {m : Nat} {f : Nat × List Leaf → Option (Nat × List Leaf)} {s : Nat × List Leaf} {j : Nat} {r : List Leaf} (h : f s = some (m + j, r)) (n : Nat) : iterL m f (n + 1) s = some (j, r) := by
  simp only [iterL, h]
  rw [if_neg (by omega), Nat.add_sub_cancel_left]
theorem iterL_run {m : Nat} {f : Nat × List Leaf → Option (Nat × List Leaf)} (S : Nat → Nat × List Leaf) {j : Nat} {r : List Leaf} : ∀ (N k fuel : Nat), (∀ i, k ≤ i → i < k + N → f (S i) = some (S (i + 1)) ∧ (S (i + 1)).1 < m) → f (S (k + N)) = some (m + j, r) → N < fuel → iterL m f fuel (S k) = some (j, r)
  | 0, k, 0, _, _, hf => absurd hf (Nat.lt_irrefl _)
  | 0, k, fuel + 1, _, he, _ => loop_last (by rw [Nat.add_zero] at he; exact he) _
  | N + 1, k, 0, _, _, hf => absurd hf (Nat.not_lt_zero _)
  | N + 1, k, fuel + 1, hs, he, hf => by
    obtain ⟨h1, h2⟩ := hs k (Nat.le_refl _) (by omega)
    rw [loop_step h1 h2]
    exact iterL_run S N (k + 1) fuel (fun i hi hl => hs i (by omega) (by omega)) (by rw [← he]; congr 2; omega) (by omega)
theorem loopL_run {m : Nat} {f : Nat × List Leaf → Option (Nat × List Leaf)} (S : Nat → Nat × List Leaf) (N : Nat) {j : Nat} {r : List Leaf} (hs : ∀ k, k < N → f (S k) = some (S (k + 1)) ∧ (S (k + 1)).1 < m) (he : f (S N) = some (m + j, r)) (hN : N < 18446744073709551616) : loopL m f (S 0) = some (j, r) :=
  iterL_run S N 0 loopFuel (fun i _ h => hs i (by omega)) (by rw [Nat.zero_add]; exact he) (fuel_pos hN)
/-- With one shape at the head. -/
theorem loop1_run {f : Nat × List Leaf → Option (Nat × List Leaf)} (S : Nat → List Leaf) (N : Nat) {j : Nat} {r : List Leaf} (hs : ∀ k, k < N → f (0, S k) = some (0, S (k + 1))) (he : f (0, S N) = some (j + 1, r)) (hN : N < 18446744073709551616) : loopL 1 f (0, S 0) = some (j, r) :=
  loopL_run (fun k => (0, S k)) N (fun k hk => ⟨hs k hk, Nat.zero_lt_one⟩) (by rw [Nat.add_comm]; exact he) hN
/-- A loop that a measure brings to an end. -/
theorem iterL_ind {m : Nat} {f : Nat × List Leaf → Option (Nat × List Leaf)} (Inv : Nat × List Leaf → Prop) (μ : Nat × List Leaf → Nat) (Post : Nat → List Leaf → Prop)
    (h : ∀ s, Inv s → (∃ s', f s = some s' ∧ s'.1 < m ∧ Inv s' ∧ μ s' < μ s) ∨ (∃ j r, f s = some (m + j, r) ∧ Post j r)) : ∀ (fuel : Nat) (s : Nat × List Leaf), Inv s → μ s < fuel → ∃ j r, iterL m f fuel s = some (j, r) ∧ Post j r
  | 0, s, _, hf => absurd hf (Nat.not_lt_zero _)
  | n + 1, s, hi, hf => by
    rcases h s hi with ⟨s', h1, h2, h3, h4⟩ | ⟨j, r, h1, h2⟩
    · obtain ⟨j, r, e, hp⟩ := iterL_ind Inv μ Post h n s' h3 (by omega)
      exact ⟨j, r, by rw [loop_step h1 h2]; exact e, hp⟩
    · exact ⟨j, r, loop_last h1 _, h2⟩
theorem loopL_ind {m : Nat} {f : Nat × List Leaf → Option (Nat × List Leaf)} (Inv : Nat × List Leaf → Prop) (μ : Nat × List Leaf → Nat) (Post : Nat → List Leaf → Prop)
    (h : ∀ s, Inv s → (∃ s', f s = some s' ∧ s'.1 < m ∧ Inv s' ∧ μ s' < μ s) ∨ (∃ j r, f s = some (m + j, r) ∧ Post j r)) (s : Nat × List Leaf) (hi : Inv s) (hf : μ s < 18446744073709551616) : ∃ j r, loopL m f s = some (j, r) ∧ Post j r :=
  iterL_ind Inv μ Post h loopFuel s hi (fuel_pos hf)
/-- A closed function that says true. -/
def awakeL (s : Nat × List Leaf) : Option (Nat × List Leaf) := match s.1 with
  | 0 => asE s.2 (some (0, [.b true])) none
  | _ => none
def awakeE : Ent := ⟨[⟨[], []⟩], [⟨.bool, [], []⟩], awakeL⟩
theorem awake_sound {C : CallF} {f : FuncId} (h : C f [] [] = some (.bool true, [], [])) : EntSound C f awakeE := by
  intro i ls j r sh args hh hL hi hu
  match i, hi with
  | 0, hi =>
    cases hi
    have hl : ls = [] := by
      cases ls with
      | nil => rfl
      | cons a b => cases hL
    subst hl
    have e : some (0, [Leaf.b true]) = some (j, r) := hL
    simp only [Option.some.injEq, Prod.mk.injEq] at e
    obtain ⟨rfl, rfl⟩ := e
    have ha : args = [] := by
      cases args with
      | nil => rfl
      | cons a b => simp [unifyA, unifyL] at hu
    have hr : hh = [] := by
      cases hh with
      | nil => rfl
      | cons a b => subst ha; simp [unifyA, unifyL, unifyH] at hu
    subst ha hr
    exact ⟨_, _, h, rfl, rfl⟩
  | i + 1, hi => cases hi
theorem awakeL_ok : awakeL (0, []) = some (0, [.b true]) := rfl
theorem optK_some {α β : Type} (b : β) (K : β → α) (z : α) : optK (some b) K z = K b := rfl
theorem optK_none {α β : Type} (K : β → α) (z : α) : optK (none : Option β) K z = z := rfl
/-- A loop that looks at one after the other, and ends at the first that is not well. -/
theorem loop1_all {f : Nat × List Leaf → Option (Nat × List Leaf)} (S : Nat → List Leaf) (p : Nat → Bool) {r1 r2 : List Leaf} (N : Nat) (hs : ∀ k, k < N → p k = true → f (0, S k) = some (0, S (k + 1))) (hf : ∀ k, k < N → p k = false → f (0, S k) = some (2, r2)) (he : f (0, S N) = some (1, r1)) (hN : N < 18446744073709551616) :
    loopL 1 f (0, S 0) = if (List.range N).all p then some (0, r1) else some (1, r2) := by
  by_cases h : (List.range N).all p = true
  · rw [if_pos h]
    exact loop1_run S N (fun k hk => hs k hk (List.all_eq_true.1 h k (List.mem_range.2 hk))) he hN
  · rw [if_neg h]
    have hex : ∃ k, k < N ∧ p k = false := by
      rw [List.all_eq_true] at h
      have h := Classical.not_forall.1 h
      obtain ⟨k, hk⟩ := h
      rw [Classical.not_imp, List.mem_range] at hk
      exact ⟨k, hk.1, by simpa using hk.2⟩
    obtain ⟨k, hk, hpk, hmin⟩ : ∃ k, k < N ∧ p k = false ∧ ∀ i, i < k → p i = true := by
      obtain ⟨k, hk, hp⟩ := hex
      induction k using Nat.strongRecOn with
      | _ k ih =>
        by_cases hall : ∀ i, i < k → p i = true
        · exact ⟨k, hk, hp, hall⟩
        · obtain ⟨i, hi⟩ := Classical.not_forall.1 hall
          rw [Classical.not_imp] at hi
          exact ih i hi.1 (by omega) (by simpa using hi.2)
    exact loop1_run S k (fun i hi => hs i (by omega) (hmin i hi)) (hf k hk hpk) (by omega)
theorem succ_cast (k : Nat) : ((k + 1 : Nat) : Int) = (k : Int) + 1 := rfl
theorem wrap64 {x : Int} (h1 : -9223372036854775808 ≤ x) (h2 : x ≤ 9223372036854775807) : IntKind.i64.wrap x = x := IntWalk.i64_in _ (by omega)
theorem wrap_nat {n : Nat} (h : n < 9223372036854775808) : IntKind.i64.wrap (n : Int) = n := wrap64 (by omega) (by omega)
theorem wrap_div {a b : Nat} (h : a < 9223372036854775808) : IntKind.i64.wrap (Int.tdiv (a : Int) (b : Int)) = ((a / b : Nat) : Int) := by
  rw [show Int.tdiv (a : Int) (b : Int) = ((a / b : Nat) : Int) from rfl]
  have := Nat.div_le_self a b
  exact wrap_nat (by omega)
theorem get_set_eq {l : List Int} {i : Nat} (h : i < l.length) (x : Int) : (l.set i x)[i]? = some x := by simp [h]
theorem get_some {l : List Int} {i : Nat} (h : i < l.length) : l[i]? = some (l.getD i 0) := by simp [h]
theorem toNat_cast (k : Nat) : Int.toNat (k : Int) = k := rfl
/-! ### A list that is turned place by place: its first k are v's, the others still q's -/
def mix {α : Type} (v q : List α) (k : Nat) : List α := v.take k ++ q.drop k
theorem mix_len {α : Type} {v q : List α} (h : v.length = q.length) (k : Nat) : (mix v q k).length = q.length := by
  unfold mix
  rw [List.length_append, List.length_take, List.length_drop]
  omega
theorem mix_zero {α : Type} (v q : List α) : mix v q 0 = q := by simp [mix]
theorem mix_all {α : Type} {v q : List α} (h : v.length = q.length) : mix v q q.length = v := by
  unfold mix
  rw [List.drop_length, List.append_nil, List.take_of_length_le (by omega)]
theorem mix_get {α : Type} {v q : List α} (h : v.length = q.length) {k : Nat} (hk : k < q.length) : (mix v q k)[k]? = q[k]? := by
  unfold mix
  rw [List.getElem?_append_right (by rw [List.length_take]; omega), List.length_take, List.getElem?_drop]
  congr 1
  omega
theorem mix_done {α : Type} {v q : List α} {k i : Nat} (hi : i < k) (hk : k ≤ v.length) : (mix v q k)[i]? = v[i]? := by
  unfold mix
  rw [List.getElem?_append_left (by rw [List.length_take]; omega), List.getElem?_take_of_lt hi]
theorem mix_set {α : Type} {v q : List α} (h : v.length = q.length) {k : Nat} (hk : k < q.length) {x : α} (hx : v[k]? = some x) : (mix v q k).set k x = mix v q (k + 1) := by
  unfold mix
  have hl : (v.take k).length = k := by rw [List.length_take]; omega
  rw [List.set_append_right _ _ (by omega), hl, Nat.sub_self, List.take_add_one, hx]
  have hd : q.drop k = q[k] :: q.drop (k + 1) := List.drop_eq_getElem_cons hk
  rw [hd, List.set_cons_zero, List.append_assoc]
  rfl
theorem take_snoc {α : Type} {l : List α} {k : Nat} {x : α} (h : l[k]? = some x) : l.take (k + 1) = l.take k ++ [x] := by
  rw [List.take_add_one, h]; rfl
def fewL (cap : Nat) (cl : Int → Int) (l : List Int) : List Int := (l.take cap).map cl
theorem fewL_len (cap : Nat) (cl : Int → Int) (l : List Int) : (fewL cap cl l).length = min cap l.length := by simp [fewL]
theorem fewL_get {cap : Nat} {cl : Int → Int} {l : List Int} {k : Nat} (h1 : k < cap) (h2 : k < l.length) : (fewL cap cl l)[k]? = some (cl (l.getD k 0)) := by
  simp only [fewL, List.getElem?_map, List.getElem?_take_of_lt h1, get_some h2, Option.map_some]
/-- A loop that takes up to so many of a list's numbers, each turned, into a new list. -/
theorem few_loop {f : Nat × List Leaf → Option (Nat × List Leaf)} (cap : Nat) (cl : Int → Int) (l : List Int) (n : Nat) (hn : l.length = n) (h1 : 1 ≤ n) (hc : 1 ≤ cap) (hm : n < 18446744073709551616)
    (h0 : f (0, [.n n, .i 0, .l l]) = some (1, [.n n, .n 1, .i 1, .l l, .l [cl (l.getD 0 0)]]))
    (hs : ∀ (k : Nat) (L : List Int), 1 ≤ k → k < n → k < cap → L.length = k → f (1, [.n n, .n k, .i k, .l l, .l L]) = some (1, [.n n, .n (k + 1), .i (k + 1 : Nat), .l l, .l (L ++ [cl (l.getD k 0)])]))
    (he : ∀ (k : Nat) (L : List Int), (n ≤ k ∨ cap ≤ k) → k ≤ n → k ≤ cap → L.length = k → f (1, [.n n, .n k, .i k, .l l, .l L]) = some (3, [.n k, .l l, .l L])) :
    loopL 2 f (0, [.n n, .i 0, .l l]) = some (1, [.n (min cap n), .l l, .l (fewL cap cl l)]) := by
  have hlen : (fewL cap cl l).length = min cap n := by rw [fewL_len, hn]
  have main := loopL_run (m := 2) (f := f) (fun k => if k = 0 then (0, [.n n, .i 0, .l l]) else (1, [.n n, .n k, .i k, .l l, .l ((fewL cap cl l).take k)])) (min cap n) (j := 1) (r := [.n (min cap n), .l l, .l (fewL cap cl l)]) (fun k hk => ?_) ?_ (by omega)
  · simpa using main
  · have hg := fewL_get (cl := cl) (l := l) (k := k) (show k < cap by omega) (by omega)
    have ht := take_snoc hg
    simp only [Nat.succ_ne_zero, if_false]
    refine ⟨?_, by decide⟩
    by_cases hk0 : k = 0
    · subst hk0
      rw [if_pos rfl, h0, ht]
      rfl
    · rw [if_neg hk0, hs k _ (by omega) (by omega) (by omega) (by rw [List.length_take]; omega), ht]
  · have hne : ¬ min cap n = 0 := by omega
    rw [if_neg hne, List.take_of_length_le (by omega), he _ _ (by omega) (by omega) (by omega) hlen]
theorem altK_4 {α : Type} (r : List Leaf) (k k1 k2 k3 k4 : List Leaf → α) (ks : List (List Leaf → α)) (z : α) : altK (some (4, r)) (k :: k1 :: k2 :: k3 :: k4 :: ks) z = k4 r := rfl
theorem altK_5 {α : Type} (r : List Leaf) (k k1 k2 k3 k4 k5 : List Leaf → α) (ks : List (List Leaf → α)) (z : α) : altK (some (5, r)) (k :: k1 :: k2 :: k3 :: k4 :: k5 :: ks) z = k5 r := rfl
theorem altK_6 {α : Type} (r : List Leaf) (k k1 k2 k3 k4 k5 k6 : List Leaf → α) (ks : List (List Leaf → α)) (z : α) : altK (some (6, r)) (k :: k1 :: k2 :: k3 :: k4 :: k5 :: k6 :: ks) z = k6 r := rfl
theorem loopL_all {m : Nat} {f : Nat × List Leaf → Option (Nat × List Leaf)} (S : Nat → List Leaf) (p : Nat → Bool) {j1 j2 : Nat} {r1 r2 : List Leaf} (hm : 0 < m) (N : Nat) (hs : ∀ k, k < N → p k = true → f (0, S k) = some (0, S (k + 1))) (hf : ∀ k, k < N → p k = false → f (0, S k) = some (m + j2, r2)) (he : (∀ k, k < N → p k = true) → f (0, S N) = some (m + j1, r1)) (hN : N < 18446744073709551616) :
    (loopL m f (0, S 0) = some (j1, r1) ∧ ∀ k, k < N → p k = true) ∨ loopL m f (0, S 0) = some (j2, r2) := by
  by_cases h : ∀ k, k < N → p k = true
  · left
    exact ⟨loopL_run (fun k => (0, S k)) N (fun k hk => ⟨hs k hk (h k hk), hm⟩) (he h) hN, h⟩
  · right
    obtain ⟨k, hk⟩ := Classical.not_forall.1 h
    rw [Classical.not_imp] at hk
    obtain ⟨k, hk, hpk, hmin⟩ : ∃ k, k < N ∧ p k = false ∧ ∀ i, i < k → p i = true := by
      obtain ⟨hk, hp0⟩ := hk
      have hp : p k = false := by simpa using hp0
      clear h hp0
      induction k using Nat.strongRecOn with
      | _ k ih =>
        by_cases hall : ∀ i, i < k → p i = true
        · exact ⟨k, hk, hp, hall⟩
        · obtain ⟨i, hi⟩ := Classical.not_forall.1 hall
          rw [Classical.not_imp] at hi
          exact ih i hi.1 (by omega) (by simpa using hi.2)
    exact loopL_run (fun k => (0, S k)) k (fun i hi => ⟨hs i (by omega) (hmin i hi), hm⟩) (hf k hk hpk) (by omega)
theorem loopL_last {m : Nat} {f : Nat × List Leaf → Option (Nat × List Leaf)} {s : Nat × List Leaf} {j : Nat} {r : List Leaf} (h : f s = some (m + j, r)) : loopL m f s = some (j, r) := loop_last h _
/-! ### Contracts and pieces with masks: alternatives that an input's shape never comes to are left out -/
section
variable {α : Type}
def maskK : List Bool → List (List Leaf → α) → α → List (List Leaf → α)
  | [], ks, z => ks
  | _ :: _, [], z => []
  | b :: m, k :: ks, z => cond b k (fun _ => z) :: maskK m ks z
theorem maskK_get : ∀ {m : List Bool} {ks : List (List Leaf → α)} {z : α} {j : Nat} {k : List Leaf → α}, ks[j]? = some k → (maskK m ks z)[j]? = some k ∨ (maskK m ks z)[j]? = some (fun _ => z)
  | [], ks, z, j, k, h => .inl h
  | _ :: _, [], z, j, k, h => by cases h
  | b :: m, x :: ks, z, 0, k, h => by
    simp only [List.getElem?_cons_zero, Option.some.injEq] at h
    subst h
    cases b
    · exact .inr rfl
    · exact .inl rfl
  | b :: m, x :: ks, z, j + 1, k, h => by
    simp only [List.getElem?_cons_succ] at h
    simp only [maskK, List.getElem?_cons_succ]
    exact maskK_get h
def entKM (e : Ent) (m : List (List Bool)) (args : List EV) (h : List Row) (K : EV × List Row × List Nat → α) (z : α) : α :=
  findA e.ins args h 0 (fun i ls => altK (e.L (i, ls)) (maskK (m.getD i []) (e.outs.map fun p r => fillR p r K z) z) z) z
theorem entKM_ok {C : CallF} {f : FuncId} {e : Ent} (he : EntSound C f e) {m : List (List Bool)} {args : List EV} {h : List Row} {K : EV × List Row × List Nat → α} {z : α} : Leads (entKM e m args h K z) (C f args h) K z := by
  unfold entKM
  rcases findA_spec (l := e.ins) (args := args) (h := h) (k := 0) (K := fun i ls => altK (e.L (i, ls)) (maskK (m.getD i []) (e.outs.map fun p r => fillR p r K z) z) z) (z := z) with h0 | ⟨i, sh, ls, h1, h2, h3⟩
  · exact .inl h0
  · rw [h3, Nat.zero_add]
    cases hL : e.L (i, ls) with
    | none => exact .z
    | some p =>
      obtain ⟨j, r⟩ := p
      obtain ⟨x, q, e1, e2, e3⟩ := he i ls j r sh args h hL h1 h2
      have hk : (e.outs.map fun p r => fillR p r K z)[j]? = some (fun r => fillR q r K z) := by rw [List.getElem?_map, e2]; rfl
      rcases maskK_get (m := m.getD i []) (z := z) hk with h4 | h4
      · refine .inr ⟨x, e1, ?_⟩
        rw [altK_some, h4]
        exact fillR_of e3 _ _
      · refine .inl ?_
        rw [altK_some, h4]
def ckOfM (es : List (FuncId × Ent × List (List Bool))) : CallK := fun α f args h K z => go es f args h K z
where go {α : Type} : List (FuncId × Ent × List (List Bool)) → FuncId → List EV → List Row → (EV × List Row × List Nat → α) → α → α
  | [], f, args, h, K, z => z
  | (g, e, m) :: r, f, args, h, K, z => cond (f == g) (entKM e m args h K z) (go r f args h K z)
theorem ckOfM_nil {C : CallF} : CallKOk (ckOfM []) C := by
  intro α g args hh K z
  exact .z
theorem ckOfM_cons {C : CallF} {f : FuncId} {e : Ent} {m : List (List Bool)} {es : List (FuncId × Ent × List (List Bool))} (h : EntSound C f e) (hr : CallKOk (ckOfM es) C) : CallKOk (ckOfM ((f, e, m) :: es)) C := by
  intro α g args hh K z
  show Leads (ckOfM.go ((f, e, m) :: es) g args hh K z) _ _ _
  unfold ckOfM.go
  refine .cond (fun e' => ?_) fun _ => hr α g args hh K z
  rw [beq_iff_eq] at e'
  subst e'
  exact entKM_ok h
def orcKM (o : Orc) (m : List (List Bool)) (st : St) (K : SX × St → α) (z : α) : α :=
  findIn o.ins st 0 (fun i ls => altK (o.L (i, ls)) (maskK (m.getD i []) (o.outs.map fun p r => fillS p.2 r (fun st' => K (p.1, st')) z) z) z) z
theorem orcKM_ok {C : CallF} {a : SC} {o : Orc} (h : OrcSound C a o) {m : List (List Bool)} {st : St} {K : SX × St → α} {z : α} : Leads (orcKM o m st K z) (evC C a st) K z := by
  unfold orcKM
  rcases findIn_spec (l := o.ins) (st := st) (k := 0) (K := fun i ls => altK (o.L (i, ls)) (maskK (m.getD i []) (o.outs.map fun p r => fillS p.2 r (fun st' => K (p.1, st')) z) z) z) (z := z) with e | ⟨i, sh, ls, h1, h2, h3⟩
  · exact .inl e
  · rw [h3, Nat.zero_add]
    cases hL : o.L (i, ls) with
    | none => exact .z
    | some p =>
      obtain ⟨j, r⟩ := p
      obtain ⟨x, st', q, e1, e2, e3⟩ := h i ls j r sh st hL h1 h2
      have hk : (o.outs.map fun p r => fillS p.2 r (fun st' => K (p.1, st')) z)[j]? = some (fun r => fillS q r (fun st' => K (x, st')) z) := by rw [List.getElem?_map, e2]; rfl
      rcases maskK_get (m := m.getD i []) (z := z) hk with h4 | h4
      · refine .inr ⟨(x, st'), e1, ?_⟩
        rw [altK_some, h4]
        exact fillS_of e3 _ _
      · refine .inl ?_
        rw [altK_some, h4]
end
def okOfM (os : List (Orc × List (List Bool))) : OrcK := fun α i st K z => match os[i]? with
  | some (o, m) => orcKM o m st K z
  | none => z
theorem okOfM_ok {os : List (Orc × List (List Bool))} {C : CallF} {i : Nat} {a : SC} {o : Orc} {m : List (List Bool)} (hi : os[i]? = some (o, m)) (h : OrcSound C a o) : ∀ (α : Type) (st : St) (K : SX × St → α) (z : α), Leads (okOfM os α i st K z) (evC C a st) K z := by
  intro α st K z
  unfold okOfM
  rw [hi]
  exact orcKM_ok h
end Go.Sx
