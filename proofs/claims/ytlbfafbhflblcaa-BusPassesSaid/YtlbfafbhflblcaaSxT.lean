/-
  The abstract machine with continuations: what it makes of values that are not known, as a tree of tests. Conditions: none.
-/
import Derived.Test.YtlbfafbhflblcaaSxS
namespace Go.Sx
open Go
set_option linter.unusedVariables false
def ZK {β α : Type} (r : α) (o : Option β) (K : β → α) (z : α) : Prop := r = z ∨ ∃ b, o = some b ∧ r = K b
section
variable {α β γ : Type}
theorem ZK.z {o : Option β} {K : β → α} {z : α} : ZK z o K z := .inl rfl
theorem ZK.some {b : β} {K : β → α} {z : α} : ZK (K b) (some b) K z := .inr ⟨b, rfl, rfl⟩
theorem ZK.of {o : Option β} {b : β} {K : β → α} {z : α} (h : o = .some b) : ZK (K b) o K z := .inr ⟨b, h, rfl⟩
theorem ZK.bind {r : α} {o : Option β} {f : β → Option γ} {K' : β → α} {K : γ → α} {z : α} (h : ZK r o K' z) (hf : ∀ b, o = .some b → ZK (K' b) (f b) K z) : ZK r (o.bind f) K z := by
  rcases h with h | ⟨b, hb, h⟩
  · exact .inl h
  · rcases hf b hb with h' | ⟨c, hc, h'⟩
    · exact .inl (h.trans h')
    · exact .inr ⟨c, by rw [hb]; exact hc, h.trans h'⟩
theorem ZK.map {r : α} {o : Option β} {f : β → γ} {K : γ → α} {z : α} (h : ZK r o (fun b => K (f b)) z) : ZK r (o.map f) K z := by
  rcases h with h | ⟨b, hb, h⟩
  · exact .inl h
  · exact .inr ⟨f b, by rw [hb]; rfl, h⟩
theorem ZK.map' {r : α} {o : Option β} {o' : Option γ} {f : β → γ} {K : γ → α} {z : α} (e : o' = o.map f) (h : ZK r o (fun b => K (f b)) z) : ZK r o' K z := by rw [e]; exact h.map
theorem ZK.ite {c : Prop} [Decidable c] {r : α} {o : Option β} {K : β → α} {z : α} (h : c → ZK r o K z) : ZK (if c then r else z) o K z := by
  by_cases hc : c
  · rw [if_pos hc]; exact h hc
  · rw [if_neg hc]; exact .z
theorem ZK.ite' {c : Prop} [Decidable c] {r : α} {o : Option β} {K : β → α} {z : α} (h : ¬ c → ZK r o K z) : ZK (if c then z else r) o K z := by
  by_cases hc : c
  · rw [if_pos hc]; exact .z
  · rw [if_neg hc]; exact h hc
theorem ZK.cond {b : Bool} {r s : α} {o : Option β} {K : β → α} {z : α} (h1 : b = true → ZK r o K z) (h2 : b = false → ZK s o K z) : ZK (cond b r s) o K z := by
  cases b
  · exact h2 rfl
  · exact h1 rfl
def optK (o : Option β) (K : β → α) (z : α) : α := match o with
  | some b => K b
  | none => z
theorem Zal {o : Option β} {K : β → α} {z : α} : ZK (optK o K z) o K z := by
  cases o
  · exact .z
  · exact .some
def bAnd (k : IntKind) (a b : Int) : Int := k.wrap (BitVec.ofInt k.bits a &&& BitVec.ofInt k.bits b).toNat
def bOr (k : IntKind) (a b : Int) : Int := k.wrap (BitVec.ofInt k.bits a ||| BitVec.ofInt k.bits b).toNat
def bXor (k : IntKind) (a b : Int) : Int := k.wrap (BitVec.ofInt k.bits a ^^^ BitVec.ofInt k.bits b).toNat
def ZmV (k : IntKind) (a b : Int) : Int := k.wrap (BitVec.ofInt k.bits a &&& ~~~BitVec.ofInt k.bits b).toNat
def shlI (k : IntKind) (a b : Int) : Int := k.wrap (a * 2 ^ (min b.toNat k.bits))
def shrI (k : IntKind) (a b : Int) : Int := a.fdiv (2 ^ (min b.toNat k.bits))
def ZhF (op : BinOp) (k : IntKind) (a b : Int) (K : EV → α) (z : α) : α :=
  match op with
  | .add => K (.int k (k.wrap (a + b)))
  | .sub => K (.int k (k.wrap (a - b)))
  | .mul => K (.int k (k.wrap (a * b)))
  | .quo => if b = 0 then z else K (.int k (k.wrap (a.tdiv b)))
  | .rem => if b = 0 then z else K (.int k (a.tmod b))
  | .eql => K (.bool (decide (a = b)))
  | .neq => K (.bool (decide (a ≠ b)))
  | .lss => K (.bool (decide (a < b)))
  | .leq => K (.bool (decide (a ≤ b)))
  | .gtr => K (.bool (decide (b < a)))
  | .geq => K (.bool (decide (b ≤ a)))
  | .and => K (.int k (bAnd k a b))
  | .or => K (.int k (bOr k a b))
  | .xor => K (.int k (bXor k a b))
  | .andNot => K (.int k (ZmV k a b))
  | _ => z
theorem Zjr {op : BinOp} {k : IntKind} {a b : Int} {K : EV → α} {z : α} : ZK (ZhF op k a b K z) (Ze7 op k a b) K z := by
  cases op <;> simp only [ZhF, Ze7, Zgp, Option.map_some] <;> first
    | exact .z
    | exact .some
    | exact .ite' fun h => by rw [if_neg h]; exact .some
    | (refine .of ?_; congr 2; rw [Bool.eq_iff_iff]; simp)
def Zdb (op : BinOp) (k : IntKind) (a b : Int) (K : EV → α) (z : α) : α :=
  if b < 0 then z else
  match op with
  | .shl => K (.int k (shlI k a b))
  | .shr => K (.int k (shrI k a b))
  | _ => z
theorem ZdN {op : BinOp} {k : IntKind} {a b : Int} {K : EV → α} {z : α} : ZK (Zdb op k a b K z) (ZcQ op k a b) K z := by
  unfold Zdb ZcQ
  refine .ite' fun h => ?_
  rw [if_neg h]
  cases op <;> first
    | exact .z
    | exact .some
def ZiD (l : List BT) (a b : EV) (K : Bool → α) (z : α) : α :=
  match a, b with
  | .ints k x, .ints k' y => if k = k' then (if l.all BT.isInt = true then (if x.length = l.length then (if y.length = l.length then K (decide (x = y)) else z) else z) else z) else z
  | a, b => optK (Zgq l a b) K z
theorem ZgW {l : List BT} {a b : EV} {K : Bool → α} {z : α} : ZK (ZiD l a b K z) (Zgq l a b) K z := by
  unfold ZiD
  split
  · refine .ite fun h1 => .ite fun h2 => .ite fun h3 => .ite fun h4 => .of ?_
    simp only [Zgq]
    rw [if_pos ⟨h1, h3, h4, h2⟩]
    congr 1
    rw [Bool.eq_iff_iff]; simp
  · exact Zal
def binK (op : BinOp) (ty : BT) (x y : EV) (K : EV → α) (z : α) : α :=
  match x, y with
  | .int k a, .int k' b =>
    match op with
    | .shl => Zdb .shl k a b K z
    | .shr => Zdb .shr k a b K z
    | op => if k = k' then ZhF op k a b K z else z
  | .str a, .str b =>
    match op with
    | .add => if a.length + b.length ≤ 9223372036854775807 then K (.str (a ++ b)) else z
    | .eql => K (.bool (decide (a = b)))
    | .neq => K (.bool (decide (a ≠ b)))
    | _ => z
  | .bool a, .bool b => match op, ty with
    | .eql, .bool => K (.bool (decide (a = b)))
    | .neq, .bool => K (.bool (decide (a ≠ b)))
    | _, _ => z
  | x, y => match op, ty with
    | .eql, .cells l => ZiD l x y (fun b => K (.bool b)) z
    | .neq, .cells l => ZiD l x y (fun b => K (.bool (!b))) z
    | op, ty => optK (Zed op ty x y) K z
theorem ZmW {op : BinOp} {ty : BT} {x y : EV} {K : EV → α} {z : α} : ZK (binK op ty x y K z) (Zed op ty x y) K z := by
  unfold binK
  split
  · rename_i k a k' b
    split
    · exact ZdN
    · exact ZdN
    · rename_i h1 h2
      refine .ite fun h => ?_
      subst h
      have e : Zed op ty (.int k a) (.int k b) = Ze7 op k a b := by
        cases op <;> first | (simp [Zed]; done) | exact absurd rfl h1 | exact absurd rfl h2
      rw [e]
      exact Zjr
  · split
    · exact .ite fun h => .of (by simp [Zed, h])
    · refine .of ?_
      simp only [Zed]
      congr 2
      rw [Bool.eq_iff_iff]; simp
    · refine .of ?_
      simp only [Zed]
      congr 2
      rw [Bool.eq_iff_iff]; simp
    · exact .z
  · split
    · exact .of rfl
    · refine .of ?_
      show some (EV.bool (!(_ == _))) = _
      congr 2
      rw [Bool.eq_iff_iff]; simp
    · exact .z
  · rename_i h1 h2 h3
    split
    · refine .map' ?_ ZgW
      unfold Zed
      split
      · exact (h1 _ _ _ _ rfl rfl).elim
      · exact (h2 _ _ rfl rfl).elim
      · exact (h3 _ _ rfl rfl).elim
      · rfl
    · refine .map' ?_ ZgW
      unfold Zed
      split
      · exact (h1 _ _ _ _ rfl rfl).elim
      · exact (h2 _ _ rfl rfl).elim
      · exact (h3 _ _ rfl rfl).elim
      · rfl
    · exact Zal
def unK (op : UnOp) (x : EV) (K : EV → α) (z : α) : α :=
  match op, x with
  | .neg, .int k n => K (.int k (k.wrap (0 - n)))
  | .xor, .int k n => K (.int k (bXor k (if k.signed then -1 else k.max) n))
  | .not, .bool b => K (.bool (!b))
  | _, _ => z
theorem ZnE {op : UnOp} {x : EV} {K : EV → α} {z : α} : ZK (unK op x K z) (unEv op x) K z := by
  unfold unK
  split
  · exact .some
  · exact .of rfl
  · exact .some
  · exact .z
def ZeL : CK → Nat → List CK → List (CK × Nat)
  | k, p, [] => [(k, p)]
  | k, p, q :: r => if k = q then ZeL k (p + 1) r else (k, p) :: ZeL q (p + 1) r
def ZkC : List (CK × Nat) → Nat → (CK → α) → α
  | [], _, K => K .bool
  | (k, e) :: r, m, K => match r with
    | [] => K k
    | r => if m < e then K k else ZkC r m K
theorem ZiE (k : CK) (p : Nat) : ∀ r, ZeL k p r ≠ []
  | [] => by simp [ZeL]
  | q :: r => by
    unfold ZeL
    split
    · rename_i e; subst e; exact ZiE k (p + 1) r
    · simp
theorem Zf2 : ∀ (r : List CK) (k : CK) (p m : Nat) (K : CK → α), m < p + r.length → ZkC (ZeL k p r) m K = if m < p then K k else K (r.getD (m - p) .bool)
  | [], k, p, m, K, h => by rw [if_pos (by simpa using h)]; rfl
  | q :: r, k, p, m, K, h => by
    have hl : m < p + 1 + r.length := by simp at h; omega
    have key : ∀ k', (if m < p + 1 then K k' else K (r.getD (m - (p + 1)) .bool)) = if m < p then K k' else if m = p then K k' else K ((q :: r).getD (m - p) .bool) := fun k' => by
      by_cases h1 : m < p
      · rw [if_pos h1, if_pos (by omega)]
      · by_cases h2 : m = p
        · rw [if_neg h1, if_pos h2, if_pos (by omega)]
        · rw [if_neg h1, if_neg h2, if_neg (by omega), show m - p = (m - (p + 1)) + 1 by omega]; rfl
    unfold ZeL
    split
    · rename_i e
      subst e
      rw [Zf2 r k (p + 1) m K hl, key]
      by_cases h1 : m < p
      · rw [if_pos h1, if_pos h1]
      · rw [if_neg h1, if_neg h1]
        by_cases h2 : m = p
        · rw [if_pos h2, h2, Nat.sub_self]; rfl
        · rw [if_neg h2]
    · have hne := ZiE q (p + 1) r
      have e0 : ZkC ((k, p) :: ZeL q (p + 1) r) m K = if m < p then K k else ZkC (ZeL q (p + 1) r) m K := by
        cases hr : ZeL q (p + 1) r with
        | nil => exact absurd hr hne
        | cons a b => rfl
      rw [e0, Zf2 r q (p + 1) m K hl, key]
      by_cases h1 : m < p
      · rw [if_pos h1, if_pos h1]
      · rw [if_neg h1, if_neg h1, if_neg h1]
        by_cases h2 : m = p
        · rw [if_pos h2, h2, Nat.sub_self]; rfl
        · rw [if_neg h2]
def ZkD (ks : List CK) (i : Nat) (K : CK → α) : α := match ks with
  | [] => K .bool
  | k :: r => match r with
    | [] => K k
    | q :: r => ZkC (ZeL k 1 (q :: r)) (i % (k :: q :: r).length) K
theorem Zf3 (ks : List CK) (i : Nat) (K : CK → α) : ZkD ks i K = K (Zad ks i) := by
  unfold ZkD
  split
  · rfl
  · split
    · rw [Zfc]
    · rename_i k _ q r
      have hm : i % (k :: q :: r).length < (k :: q :: r).length := Nat.mod_lt _ (by simp)
      rw [Zf2 _ _ _ _ _ (by simp at hm ⊢; omega)]
      unfold Zad
      generalize i % (k :: q :: r).length = m at *
      cases m with
      | zero => rfl
      | succ m => rw [if_neg (by omega), Nat.add_sub_cancel]; rfl
def ZeM : NK → Nat → List NK → List (NK × Nat)
  | k, p, [] => [(k, p)]
  | k, p, q :: r => if k = q then ZeM k (p + 1) r else (k, p) :: ZeM q (p + 1) r
def ZgX : List (NK × Nat) → Nat → (NK → α) → α
  | [], _, K => K (.c .any)
  | (k, e) :: r, m, K => match r with
    | [] => K k
    | r => if m < e then K k else ZgX r m K
theorem ZiF (k : NK) (p : Nat) : ∀ r, ZeM k p r ≠ []
  | [] => by simp [ZeM]
  | q :: r => by
    unfold ZeM
    split
    · rename_i e; subst e; exact ZiF k (p + 1) r
    · simp
theorem ZeN : ∀ (r : List NK) (k : NK) (p m : Nat) (K : NK → α), m < p + r.length → ZgX (ZeM k p r) m K = if m < p then K k else K (r.getD (m - p) (.c .any))
  | [], k, p, m, K, h => by rw [if_pos (by simpa using h)]; rfl
  | q :: r, k, p, m, K, h => by
    have hl : m < p + 1 + r.length := by simp at h; omega
    have key : ∀ k', (if m < p + 1 then K k' else K (r.getD (m - (p + 1)) (.c .any))) = if m < p then K k' else if m = p then K k' else K ((q :: r).getD (m - p) (.c .any)) := fun k' => by
      by_cases h1 : m < p
      · rw [if_pos h1, if_pos (by omega)]
      · by_cases h2 : m = p
        · rw [if_neg h1, if_pos h2, if_pos (by omega)]
        · rw [if_neg h1, if_neg h2, if_neg (by omega), show m - p = (m - (p + 1)) + 1 by omega]; rfl
    unfold ZeM
    split
    · rename_i e
      subst e
      rw [ZeN r k (p + 1) m K hl, key]
      by_cases h1 : m < p
      · rw [if_pos h1, if_pos h1]
      · rw [if_neg h1, if_neg h1]
        by_cases h2 : m = p
        · rw [if_pos h2, h2, Nat.sub_self]; rfl
        · rw [if_neg h2]
    · have hne := ZiF q (p + 1) r
      have e0 : ZgX ((k, p) :: ZeM q (p + 1) r) m K = if m < p then K k else ZgX (ZeM q (p + 1) r) m K := by
        cases hr : ZeM q (p + 1) r with
        | nil => exact absurd hr hne
        | cons a b => rfl
      rw [e0, ZeN r q (p + 1) m K hl, key]
      by_cases h1 : m < p
      · rw [if_pos h1, if_pos h1]
      · rw [if_neg h1, if_neg h1, if_neg h1]
        by_cases h2 : m = p
        · rw [if_pos h2, h2, Nat.sub_self]; rfl
        · rw [if_neg h2]
def Zfs (ks : List NK) (i : Nat) (K : NK → α) : α := match ks with
  | [] => K (.c .any)
  | k :: r => match r with
    | [] => K k
    | q :: r => ZgX (ZeM k 1 (q :: r)) (i % (k :: q :: r).length) K
theorem Zdc (ks : List NK) (i : Nat) (K : NK → α) : Zfs ks i K = K (Z8 ks i) := by
  unfold Zfs
  split
  · rfl
  · split
    · rw [Zgo]
    · rename_i k _ q r
      have hm : i % (k :: q :: r).length < (k :: q :: r).length := Nat.mod_lt _ (by simp)
      rw [ZeN _ _ _ _ _ (by simp at hm ⊢; omega)]
      unfold Z8
      generalize i % (k :: q :: r).length = m at *
      cases m with
      | zero => rfl
      | succ m => rw [if_neg (by omega), Nat.add_sub_cancel]; rfl
def decK (k : NK) (x : NC) (K : EV → α) : α := match k with
  | .c k => K (k.dec x.i)
  | .si k z => match z with
    | 1 => K (.ro (.ints k x.l) x.l.length 1)
    | z => K (.ro (.ints k x.l) (x.l.length / z) z)
  | .sm ks => match ks with
    | [k] => K (.ro (.mix [k] x.l) x.l.length 1)
    | ks => K (.ro (.mix ks x.l) (x.l.length / ks.length) ks.length)
  | .pt a z b => if x.i = 0 then K .nilp else K (.rp (.nest (ptK a z b) (ptL a b x.l)) 0)
theorem ZkE {z : Nat} (h : z ≠ 1) (x : List Int) : many z x = x.length / z := by
  unfold many
  split
  · exact absurd rfl h
  · rfl
theorem ZmX (k : NK) (x : NC) (K : EV → α) : decK k x K = K (k.dec x) := by
  cases k with
  | c k => rfl
  | si k z =>
    unfold decK
    simp only [NK.dec, NK.cont, NK.sz]
    split
    · rfl
    · rename_i h
      rw [ZkE (fun e => h e)]
  | sm ks =>
    unfold decK
    simp only [NK.dec, NK.cont, NK.sz]
    split
    · rfl
    · rename_i h
      rw [ZkE (fun e => by
        match ks, e with
        | [k], _ => exact h k rfl)]
  | pt a z b =>
    unfold decK
    simp only [NK.dec]
    split <;> rfl
def Zf4 (c : EV) (i : Nat) (K : EV → α) (z : α) : α :=
  match c with
  | .ints k l => optK l[i]? (fun n => K (.int k n)) z
  | .mix ks l => optK l[i]? (fun n => ZkD ks i fun k => K (k.dec n)) z
  | .nest ks l => optK l[i]? (fun n => Zfs ks i fun k => decK k n K) z
  | .agg l => optK l[i]? K z
  | _ => z
theorem ZbM {c : EV} {i : Nat} {K : EV → α} {z : α} : ZK (Zf4 c i K z) (cget c i) K z := by
  unfold Zf4 cget
  split
  · exact .map Zal
  · simp only [Zf3]; exact .map Zal
  · simp only [Zdc, ZmX]; exact .map Zal
  · exact Zal
  · exact .z
def ZgY : List NK → List NC → Nat → (List EV → α) → α → α
  | [], _, _, K, _ => K []
  | k :: r, l, i, K, z => optK l[i]? (fun n => ZgY r l (i + 1) (fun vs => K (k.dec n :: vs)) z) z
theorem ZgZ (l : List NC) (z : α) : ∀ (ks : List NK) (i : Nat) (K : List EV → α), ZgY ks l i K z = z ∨ ZgY ks l i K z = K (recN ks l i)
  | [], i, K => .inr rfl
  | k :: r, i, K => by
    unfold ZgY recN
    cases h : l[i]? with
    | none => exact .inl rfl
    | some n =>
      have e : l.getD i ⟨0, []⟩ = n := by rw [List.getD_eq_getElem?_getD, h]; rfl
      rw [e]
      exact ZgZ l z r (i + 1) fun vs => K (k.dec n :: vs)
def ZmY (ks : List NK) (l : List NC) (i : Nat) (K : EV → α) (z : α) : α := match intN ks with
  | some k => K (.ints k (((l.drop i).take ks.length).map NC.i))
  | none => match Zec ks with
    | true => ZgY ks l i (fun vs => K (.agg vs)) z
    | false => K (.nest ks ((l.drop i).take ks.length))
theorem ZlQ {ks : List NK} {l : List NC} {i : Nat} {K : EV → α} {z : α} : ZK (ZmY ks l i K z) (some (recV ks l i)) K z := by
  unfold ZmY recV
  cases h : intN ks with
  | some k => exact .some
  | none =>
    cases h2 : Zec ks with
    | true =>
      rcases ZgZ l z ks i (fun vs => K (.agg vs)) with e | e
      · exact .inl e
      · exact .inr ⟨_, rfl, e⟩
    | false => exact .some
def ZlR (ks : List NK) (l : List NC) (i n : Nat) (K : EV → α) (z : α) : Nat → Nat → α
  | 0, _ => z
  | q + 1, f => if i % ks.length = f then ZmY ((ks.drop f).take n) l i K z else ZlR ks l i n K z q (f + 1)
theorem ZiG {ks : List NK} {l : List NC} {i n : Nat} {K : EV → α} {z : α} : ∀ (q f : Nat), ZK (ZlR ks l i n K z q f) (subN ks l i n q f) K z
  | 0, f => .z
  | q + 1, f => by
    unfold ZlR subN
    by_cases h : i % ks.length = f
    · rw [if_pos h, if_pos h]
      exact ZlQ
    · rw [if_neg h, if_neg h]
      exact ZiG q (f + 1)
def Zg0 : List CK → List Int → Nat → (List EV → α) → α → α
  | [], _, _, K, _ => K []
  | k :: r, l, i, K, z => optK l[i]? (fun n => Zg0 r l (i + 1) (fun vs => K (k.dec n :: vs)) z) z
theorem Zg1 (l : List Int) (z : α) : ∀ (ks : List CK) (i : Nat) (K : List EV → α), Zg0 ks l i K z = z ∨ Zg0 ks l i K z = K (recC ks l i)
  | [], i, K => .inr rfl
  | k :: r, i, K => by
    unfold Zg0 recC
    cases h : l[i]? with
    | none => exact .inl rfl
    | some n =>
      have e : l.getD i 0 = n := by rw [List.getD_eq_getElem?_getD, h]; rfl
      rw [e]
      exact Zg1 l z r (i + 1) fun vs => K (k.dec n :: vs)
def Ze2 (c : EV) (i n : Nat) (K : EV → α) (z : α) : α :=
  match c with
  | .ints k l => if i + n ≤ l.length then K (.ints k ((l.drop i).take n)) else z
  | .mix ks l => if i + n ≤ l.length then (match ks with
    | [k] => K (.mix [k] ((l.drop i).take n))
    | ks => if n = ks.length then (if i % ks.length = 0 then Zg0 ks l i (fun vs => K (.agg vs)) z else z) else z) else z
  | .nest ks l => if i + n ≤ l.length then ZlR ks l i n K z (ks.length + 1 - n) 0 else z
  | .agg l => if i + n ≤ l.length then K (ZcP ((l.drop i).take n)) else z
  | _ => z
theorem Zbk {c : EV} {i n : Nat} {K : EV → α} {z : α} : ZK (Ze2 c i n K z) (csub c i n) K z := by
  unfold Ze2 csub
  split
  · exact .ite fun h => by simp only [h, if_true]; exact .some
  · refine .ite fun h => ?_
    simp only [h, if_true]
    rename_i ks l
    match ks with
    | [] => exact .ite fun h1 => .ite fun h2 => .of (by simp only; rw [if_pos h1, if_pos h2]; rfl)
    | [k] => exact .some
    | k :: q :: r =>
      refine .ite fun h1 => .ite fun h2 => ?_
      rcases Zg1 l z (k :: q :: r) i (fun vs => K (.agg vs)) with e | e
      · exact .inl e
      · exact .inr ⟨.agg (recC (k :: q :: r) l i), by simp only; rw [if_pos h1, if_pos h2], e⟩
  · exact .ite fun h => by simp only [h, if_true]; exact ZiG _ _
  · exact .ite fun h => by simp only [h, if_true]; exact .some
  · exact .z
def ZkF (l : List Int) (i : Nat) : Nat → Nat → List Int
  | 0, _ => []
  | n + 1, j => l.getD (i + j) 0 :: ZkF l i n (j + 1)
theorem ZiH {l : List Int} {i : Nat} : ∀ (n j : Nat), i + j + n ≤ l.length → ZkF l i n j = (l.drop (i + j)).take n
  | 0, j, _ => by simp [ZkF]
  | n + 1, j, h => by
    unfold ZkF
    rw [ZiH n (j + 1) (by omega), List.drop_eq_getElem_cons (show i + j < l.length by omega), List.take_succ_cons, List.getD_eq_getElem?_getD, List.getElem?_eq_getElem (by omega)]
    rfl
def Zg2 (c : EV) (i n : Nat) (K : EV → α) (z : α) : α :=
  match c with
  | .ints k l => if i + n ≤ l.length then K (.ints k (ZkF l i n 0)) else z
  | c => Ze2 c i n K z
theorem Zcn {c : EV} {i n : Nat} {K : EV → α} {z : α} : ZK (Zg2 c i n K z) (csub c i n) K z := by
  cases c
  case ints k l =>
    refine .ite fun h => ?_
    rw [ZiH n 0 (by omega), Nat.add_zero]
    exact .of (if_pos h)
  all_goals (simp only [Zg2]; exact Zbk)
def ZkG (c : EV) (i : Nat) (v : EV) (K : EV → α) (z : α) : α :=
  match c, v with
  | .ints k l, .int k' n => if k = k' then (if i < l.length then K (.ints k (l.set i n)) else z) else z
  | .ints k l, .ints k' x => if k = k' then (if i + x.length ≤ l.length then K (.ints k (l.take i ++ (x ++ l.drop (i + x.length)))) else z) else z
  | .agg l, .ints k x => if i + x.length ≤ l.length then K (.agg (l.take i ++ (x.map (.int k) ++ l.drop (i + x.length)))) else z
  | .mix ks l, .int k n => ZkD ks i fun k' => if k' = .int k then (if i < l.length then K (.mix ks (l.set i n)) else z) else z
  | .mix ks l, .bool b => ZkD ks i fun k' => if k' = .bool then (if i < l.length then K (.mix ks (l.set i (cond b 1 0))) else z) else z
  | .nest ks l, .int k n => Zfs ks i fun k' => if k' = .c (.int k) then (if i < l.length then K (.nest ks (l.set i ⟨n, []⟩)) else z) else z
  | .nest ks l, .bool b => Zfs ks i fun k' => if k' = .c .bool then (if i < l.length then K (.nest ks (l.set i ⟨cond b 1 0, []⟩)) else z) else z
  | .nest ks l, .ro (.ints k x) n s => Zfs ks i fun k' => if k' = .si k s then (if i < l.length then (if 0 < s ∧ x.length = n * s then K (.nest ks (l.set i ⟨0, x⟩)) else z) else z) else z
  | .nest _ l, .nest ks x => if i = 0 then (if x.length = l.length then K (.nest ks x) else z) else z
  | .nest _ l, .agg x => if i = 0 then (if x.length = l.length then K (.agg x) else z) else z
  | .agg l, .nest ks x => if i = 0 then (if x.length = l.length then K (.nest ks x) else z) else z
  | c, v => optK (cput c i v) K z
theorem Zf5 {c v : EV} {i : Nat} {K : EV → α} {z : α} : ZK (ZkG c i v K z) (cput c i v) K z := by
  unfold ZkG
  split
  · exact .ite fun h1 => .ite fun h2 => by simp only [cput, h1, h2, if_true]; exact .some
  · exact .ite fun h1 => .ite fun h2 => by simp only [cput, h1, h2, if_true]; exact .some
  · exact .ite fun h1 => by simp only [cput, h1, if_true]; exact .some
  · rw [Zf3]; exact .ite fun h1 => .ite fun h2 => by simp only [cput, h1, h2, if_true]; exact .some
  · rw [Zf3]; exact .ite fun h1 => .ite fun h2 => by simp only [cput, h1, h2, if_true]; exact .some
  · rw [Zdc]; exact .ite fun h1 => .ite fun h2 => by simp only [cput, h1, h2, if_true]; exact .some
  · rw [Zdc]; exact .ite fun h1 => .ite fun h2 => by simp only [cput, h1, h2, if_true]; exact .some
  · rw [Zdc]; exact .ite fun h1 => .ite fun h2 => .ite fun h3 => .of (by simp only [cput]; rw [if_pos h1, if_pos h2, if_pos h3])
  · exact .ite fun h1 => .ite fun h2 => .of (by simp only [cput]; rw [if_pos h1, if_pos h2])
  · exact .ite fun h1 => .ite fun h2 => .of (by simp only [cput]; rw [if_pos h1, if_pos h2])
  · exact .ite fun h1 => .ite fun h2 => .of (by simp only [cput]; rw [if_pos h1, if_pos h2])
  · exact Zal
def ZmZ (a b : EV) (K : EV → α) (z : α) : α :=
  match a, b with
  | .ints k l, .ints k' x => if k = k' then K (.ints k (l ++ x)) else z
  | .mix ks l, .agg x => match x with
    | [] => K (.mix ks l)
    | e :: x => match ks with
      | [k] => optK (encC [k] (e :: x)) (fun y => K (.mix [k] (l ++ y))) z
      | ks => optK (encC ks (e :: x)) (fun y => if l.length % ks.length = 0 then K (.mix ks (l ++ y)) else z) z
  | .mix ks l, .mix ks' x => if ks = ks' then (match ks with
    | [k] => K (.mix [k] (l ++ x))
    | ks => if l.length % ks.length = 0 then K (.mix ks (l ++ x)) else z) else z
  | .nest ks l, .agg x => match x with
    | [] => K (.nest ks l)
    | _ => z
  | .nest ks l, .nest ks' x => if ks = ks' then (match ks with
    | [k] => K (.nest [k] (l ++ x))
    | ks => if l.length % ks.length = 0 then K (.nest ks (l ++ x)) else z) else z
  | a, b => optK (ccat a b) K z
theorem ZlS {a b : EV} {K : EV → α} {z : α} : ZK (ZmZ a b K z) (ccat a b) K z := by
  unfold ZmZ
  split
  · exact .ite fun h => by simp only [ccat, h, if_true]; exact .some
  · rename_i ks l x
    split
    · exact .of rfl
    · rename_i e x
      split
      · rename_i k
        simp only [ccat]
        cases encC [k] (e :: x) with
        | none => exact .z
        | some y => exact .of (by simp [Nat.mod_one])
      · simp only [ccat]
        generalize encC ks (e :: x) = o
        cases o with
        | none => exact .z
        | some y => exact .ite fun h => .of (by simp only; rw [if_pos h])
  · rename_i ks l ks' x
    refine .ite fun h => ?_
    subst h
    split
    · exact .of (by simp [ccat, Nat.mod_one])
    · exact .ite fun h => .of (by simp [ccat, h])
  · rename_i ks l x
    split
    · exact .of rfl
    · exact .z
  · rename_i ks l ks' x
    refine .ite fun h => ?_
    subst h
    split
    · exact .of (by simp [ccat, Nat.mod_one])
    · exact .ite fun h => .of (by simp [ccat, h])
  · exact Zal
def Zdt : List (Nat × Nat × EV) → EV → (EV → α) → α → α
  | [], c, K, z => K c
  | (off, n, v) :: r, c, K, z => if clen v = n then ZkG c off v (fun c' => Zdt r c' K z) z else z
theorem Zco {K : EV → α} {z : α} : ∀ {l : List (Nat × Nat × EV)} {c : EV}, ZK (Zdt l c K z) (Za2 c l) K z
  | [], c => .some
  | (off, n, v) :: r, c => by
    unfold Zdt Za2
    refine .ite fun h => ?_
    rw [if_pos h]
    exact .bind Zf5 fun b _ => Zco
def idxK (i : EV) (len : Nat) (K : Nat → α) (z : α) : α :=
  match i with
  | .int _ n => if 0 ≤ n ∧ n < len then K n.toNat else z
  | _ => z
theorem Zf6 {i : EV} {len : Nat} {K : Nat → α} {z : α} : ZK (idxK i len K z) (Ze0 i len) K z := by
  unfold idxK Ze0
  split
  · exact .ite fun h => by simp only [h, and_self, if_true]; exact .some
  · exact .z
def ZbQ (x : Option EV) (dflt top : Nat) (K : Nat → α) (z : α) : α :=
  match x with
  | none => K dflt
  | some (.int _ n) => if 0 ≤ n ∧ n ≤ top then K n.toNat else z
  | some _ => z
theorem Zas {x : Option EV} {dflt top : Nat} {K : Nat → α} {z : α} : ZK (ZbQ x dflt top K z) (Zam x dflt top) K z := by
  unfold ZbQ Zam
  split
  · exact .some
  · exact .ite fun h => by simp only [h, and_self, if_true]; exact .some
  · exact .z
def offN (o n sz : Nat) : Nat := match sz with
  | 1 => n + o
  | sz => n * sz + o
theorem ZeO (o n sz : Nat) : offN o n sz = o + n * sz := by
  unfold offN
  split
  · omega
  · omega
def Zf7 (h : List Row) (sz k : Nat) (x : EV) (K : EV → α) (z : α) : α :=
  match x with
  | .nils => if k = 0 then K (.agg []) else z
  | .slice r o n s => if s = sz then (if k ≤ n then (match h[r]? with | some row => Ze2 row.c o (k * sz) K z | none => z) else z) else z
  | .ro c n s => if s = sz then (if k ≤ n then Ze2 c 0 (k * sz) K z else z) else z
  | _ => z
theorem ZhG {h : List Row} {sz k : Nat} {x : EV} {K : EV → α} {z : α} : ZK (Zf7 h sz k x K z) (ZaU h sz k x) K z := by
  unfold Zf7 ZaU
  cases x with
  | nils => exact .ite fun h => by simp only [h, if_true]; exact .some
  | slice r o n s =>
    refine .ite fun h1 => .ite fun h2 => ?_
    simp only
    rw [if_pos ⟨h1, h2⟩]
    cases h[r]? <;> first
      | exact .z
      | exact Zbk
  | ro c n s =>
    refine .ite fun h1 => .ite fun h2 => ?_
    simp only
    rw [if_pos ⟨h1, h2⟩]
    exact Zbk
  | _ => exact .z
def Zdd (h : List Row) (sz : Nat) (x : EV) (K : EV → α) (z : α) : α :=
  match x with
  | .nils => K (.agg [])
  | .slice r o n s => if s = sz then (match h[r]? with | some row => Ze2 row.c o (n * sz) K z | none => z) else z
  | .ro c n s => if s = sz then Ze2 c 0 (n * sz) K z else z
  | _ => z
theorem ZcM {h : List Row} {sz : Nat} {x : EV} {K : EV → α} {z : α} : ZK (Zdd h sz x K z) (ZcF h sz x) K z := by
  unfold Zdd ZcF ZaU
  cases x with
  | nils => exact .of rfl
  | slice r o n s =>
    refine .ite fun h1 => ?_
    simp only [Zax, Nat.le_refl, and_true, h1, if_true]
    cases h[r]? <;> first
      | exact .z
      | exact Zbk
  | ro c n s =>
    refine .ite fun h1 => ?_
    simp only [Zax, Nat.le_refl, and_true, h1, if_true]
    exact Zbk
  | _ => exact .z
abbrev ME := List (Bool × EV)
structure CallK where
  k : (α : Type) → FuncId → List EV → List Row → (EV × List Row × List Nat → α) → α → α
  t : (α : Type) → FuncId → Nat → ME → List EV → (Int → Int → ME → α) → α → α
def Zx (CK : CallK) (C : ZS) : Prop := (∀ (α : Type) (f : FuncId) (args : List EV) (h : List Row) (K : EV × List Row × List Nat → α) (z : α), ZK (CK.k α f args h K z) (C f args h) K z) ∧
  ∀ (α : Type) (f : FuncId) (z : Nat) (m : ME) (as : List EV) (K : Int → Int → ME → α) (w : α), CK.t α f z m as K w = w ∨ ∃ x y m', ZbA C f z m as = some (.ints .i64 [x, y], m') ∧ CK.t α f z m as K w = K x y m'
def ZhH (h : List Row) (ids : List Nat) (x : EV × List Row × List Nat) : Eff :=
  let back := ZR ids x.2.2 h.length
  { v := ren back x.1
    upd := (List.range ids.length).map fun p => (ids.getD p 0, if x.2.2.contains p then ⟨true, .unk⟩ else Zr back (Zo x.2.1 p))
    news := (x.2.2.map fun p => Zr back (Zo x.2.1 p)) ++ (x.2.1.drop ids.length).map (Zr back)
    mvs := x.2.2.map fun p => (ids.getD p 0, h.length + x.2.2.idxOf p) }
def Zf8 (CK : CallK) (f : FuncId) (args : List EV) (h : List Row) (K : Eff → α) (z : α) : α :=
  let ids := Zaa h ZB (ZI args) []
  if ids.all (fun i => decide (i < h.length) && !fresh h i) = true then
    CK.k α f (renL (ZT ids) args) (ids.map fun i => Zr (ZT ids) (Zo h i)) (fun x => K (ZhH h ids x)) z
  else z
theorem Zft {CK : CallK} {C : ZS} (hC : Zx CK C) {f : FuncId} {args : List EV} {h : List Row} {K : Eff → α} {z : α} : ZK (Zf8 CK f args h K z) (Za3 C f args h) K z := by
  unfold Zf8 Za3
  refine .ite fun hi => ?_
  simp only [hi, if_true]
  rcases hC.1 α f (renL (ZT (Zaa h ZB (ZI args) [])) args) ((Zaa h ZB (ZI args) []).map fun i => Zr (ZT (Zaa h ZB (ZI args) [])) (Zo h i)) (fun x => K (ZhH h (Zaa h ZB (ZI args) []) x)) z with e | ⟨⟨r, rows', mv⟩, hb, e⟩
  · exact .inl e
  · refine .inr ⟨ZhH h (Zaa h ZB (ZI args) []) (r, rows', mv), ?_, e⟩
    rw [hb]
    rfl
def ZiI (h : List Row) (k : NK) (v : EV) (K : NC → α) (z : α) : α :=
  match k, v with
  | .c (.int k), .int k' n => if k = k' then K ⟨n, []⟩ else z
  | .c .bool, .bool b => K ⟨cond b 1 0, []⟩
  | .si _ _, .nils => K ⟨0, []⟩
  | .si k s, .slice r o n s' => if s = s' ∧ 0 < s then (match h[r]? with
    | some row => (match row.c with
      | .ints k' l => if k = k' then (if o + n * s ≤ l.length then K ⟨0, (l.drop o).take (n * s)⟩ else z) else z
      | _ => z)
    | none => z) else z
  | .si k s, .ro (.ints k' l) n s' => if k = k' ∧ s = s' ∧ 0 < s then (if n * s ≤ l.length then K ⟨0, l.take (n * s)⟩ else z) else z
  | .pt _ _ _, .nilp => K ⟨0, []⟩
  | .pt a s b, .ptr r o => match h[r]? with
    | some row => (match row.c with
      | .nest ks l => if ks = ptK a s b ∧ o = 0 then (if l.length = a + 1 + b then K ⟨1, ptE a b l⟩ else z) else z
      | _ => z)
    | none => z
  | _, _ => z
theorem Zg3 {h : List Row} {k : NK} {v : EV} {K : NC → α} {z : α} : ZK (ZiI h k v K z) (Zee h k v) K z := by
  unfold ZiI Zee
  split
  · exact .ite fun h1 => by simp only [h1, if_true]; exact .some
  · exact .some
  · exact .some
  · rename_i k s r o n s'
    refine .ite fun h1 => ?_
    obtain ⟨rfl, hp⟩ := h1
    simp only [hp, and_self, if_true]
    cases h[r]? with
    | none => exact .z
    | some row =>
      obtain ⟨ow, c⟩ := row
      cases c <;> first | exact .z | exact .ite fun h2 => .ite fun h3 => by subst h2; simp only [h3, if_true]; exact .some
  · refine .ite fun h1 => .ite fun h2 => ?_
    obtain ⟨rfl, rfl, hp⟩ := h1
    simp only [hp, h2, and_self, if_true]
    exact .some
  · exact .some
  · rename_i a s b r o
    cases hr : h[r]? with
    | none => exact .z
    | some row =>
      obtain ⟨ow, c⟩ := row
      cases c <;> first | exact .z | exact .ite fun h1 => .ite fun h2 => .of (by simp only [hr]; rw [if_pos h1, if_pos h2])
  · exact .z
def ZeP (h : List Row) : List NK → List EV → (List NC → α) → α → α
  | [], [], K, _ => K []
  | k :: ks, v :: l, K, z => ZiI h k v (fun x => ZeP h ks l (fun r => K (x :: r)) z) z
  | _, _, _, z => z
theorem Zdu {h : List Row} {z : α} : ∀ {ks : List NK} {l : List EV} {K : List NC → α}, ZK (ZeP h ks l K z) (ZaE h ks l) K z
  | [], [], K => .some
  | k :: ks, v :: l, K => by
    unfold ZeP ZaE
    exact .bind Zg3 fun b _ => .map Zdu
  | [], v :: l, K => .z
  | k :: ks, [], K => .z
def ZnF (h : List Row) (T : List Nat) (ks : List NK) (c : EV) (K : EV × List Nat → α) (z : α) : α :=
  match c with
  | .agg l => if (Zcy (ZI l) && (ZI l).all fun r => ZaF h r && T.contains r) = true then ZeP h ks l (fun x => K (.nest ks x, ZI l)) z else z
  | c => K (c, [])
theorem ZlT {h : List Row} {T : List Nat} {ks : List NK} {c : EV} {K : EV × List Nat → α} {z : α} : ZK (ZnF h T ks c K z) (frzC h T ks c) K z := by
  cases c
  case agg l =>
    show ZK (if _ then _ else _) (if _ then _ else _) K z
    exact .ite fun h1 => by rw [if_pos h1]; exact .map Zdu
  all_goals exact .some
def Zm0 (h : List Row) (b : BK) (v : EV) (K : EV → α) (z : α) : α :=
  match b, v with
  | .keep, v => K v
  | .nest ks, .nest ks' l => if ks = ks' then K (.nest ks l) else z
  | .nest ks, .agg l => ZeP h ks l (fun x => K (.nest ks x)) z
  | .sl k s, v => ZiI h (.si k s) v (fun x => K (.ro (.ints k x.l) (many s x.l) s)) z
  | _, _ => z
theorem ZlU {h : List Row} {b : BK} {v : EV} {K : EV → α} {z : α} : ZK (Zm0 h b v K z) (bArg h b v) K z := by
  unfold Zm0 bArg
  split
  · exact .some
  · exact .ite fun h1 => .of (by subst h1; simp only [if_true])
  · exact .map Zdu
  · exact .map Zg3
  · exact .z
def ZiJ (h : List Row) : List BK → List EV → (List EV → α) → α → α
  | [], [], K, _ => K []
  | b :: bs, v :: l, K, z => Zm0 h b v (fun x => ZiJ h bs l (fun r => K (x :: r)) z) z
  | _, _, _, z => z
theorem Zg4 {h : List Row} {z : α} : ∀ {bs : List BK} {l : List EV} {K : List EV → α}, ZK (ZiJ h bs l K z) (ZdV h bs l) K z
  | [], [], K => .some
  | b :: bs, v :: l, K => by
    unfold ZiJ ZdV
    exact .bind ZlU fun b _ => .map Zg4
  | [], v :: l, K => .z
  | b :: bs, [], K => .z
def Zf9 (CK : CallK) (f : FuncId) (bs : List BK) (args : List EV) (h : List Row) (K : Eff → α) (z : α) : α :=
  ZiJ h bs args (fun as => match ZI as with
    | [] => CK.k α f as [] (fun x => match x.2.2 with
      | [] => if (noF x.1 && x.2.1.all fun row => row.own && noF row.c) = true then K { v := ren (Zbf h.length) x.1, news := x.2.1.map (Zr (Zbf h.length)) } else z
      | _ => z) z
    | _ => z) z
theorem ZhI {CK : CallK} {C : ZS} (hC : Zx CK C) {f : FuncId} {bs : List BK} {args : List EV} {h : List Row} {K : Eff → α} {z : α} : ZK (Zf9 CK f bs args h K z) (Zbz C f bs args h) K z := by
  unfold Zf9 Zbz
  rcases Zg4 (h := h) (bs := bs) (l := args) (K := fun as => match ZI as with
    | [] => CK.k α f as [] (fun x => match x.2.2 with
      | [] => if (noF x.1 && x.2.1.all fun row => row.own && noF row.c) = true then K { v := ren (Zbf h.length) x.1, news := x.2.1.map (Zr (Zbf h.length)) } else z
      | _ => z) z
    | _ => z) (z := z) with e | ⟨as, ha, e⟩
  · exact .inl e
  · rw [e, ha]
    cases hp : ZI as with
    | nil =>
      rcases hC.1 α f as [] (fun x => match x.2.2 with
        | [] => if (noF x.1 && x.2.1.all fun row => row.own && noF row.c) = true then K { v := ren (Zbf h.length) x.1, news := x.2.1.map (Zr (Zbf h.length)) } else z
        | _ => z) z with e2 | ⟨⟨r, rows', mv⟩, hb, e2⟩
      · exact .inl (by simpa only [hp] using e2)
      · simp only [hp, hb]
        rw [e2]
        cases mv with
        | nil => exact .ite fun h1 => by simp only [h1, if_true]; exact .some
        | cons _ _ => exact .z
    | cons _ _ => simp only [hp]; exact .z
def ZhJ (h : List Row) (z : Nat) (a : EV) (K : Nat → List ME → Nat → ME → α) (w : α) : α :=
  match a with
  | .tp r i => (match h[r]? with
    | some row => (match row.c with
      | .tree z' els => if z = 0 ∧ z' = 0 then optK els[i]? (fun m => K r els i m) w else w
      | _ => w)
    | none => w)
  | .ptr r o => (match h[r]? with
    | some row => (match row.c with
      | .tree z' els => if 0 < z ∧ z' = z then (if o % z = 0 then optK els[o / z]? (fun m => K r els (o / z) m) w else w) else w
      | _ => w)
    | none => w)
  | _ => w
theorem Zjs {h : List Row} {z : Nat} {a : EV} {K : Nat → List ME → Nat → ME → α} {w : α} : ZK (ZhJ h z a K w) (ZbV h z a) (fun x => K x.1 x.2.1 x.2.2.1 x.2.2.2) w := by
  unfold ZhJ ZbV
  cases a <;> try exact .z
  · rename_i r o
    simp only
    cases hr : h[r]? with
    | none => exact .z
    | some row =>
    obtain ⟨ow, c⟩ := row
    cases c <;> try exact .z
    refine .ite fun h1 => .ite fun h2 => ?_
    simp only
    rw [if_pos ⟨h1.1, h1.2, h2⟩]
    exact .map Zal
  · rename_i r i
    simp only
    cases hr : h[r]? with
    | none => exact .z
    | some row =>
    obtain ⟨ow, c⟩ := row
    cases c <;> try exact .z
    refine .ite fun h1 => ?_
    simp only
    rw [if_pos h1]
    exact .map Zal
def Zga (z : Nat) : Nat := match z with
  | 14 => 10
  | _ => 0
def Zmy : EV → Bool
  | .int _ _ => false
  | _ => true
def ZnG : EV → Bool
  | .int .i64 _ => true
  | _ => false
def Zfu (k z : Nat) (m : ME) : Bool := match m with
  | (_, .agg l) :: _ => l.length == z && (l.take k).all ZnG && (l.drop k).all Zmy
  | _ => false
def Z1 (m : ME) (j : Nat) : Int := match m with
  | (_, .agg l) :: _ => (match l[j]? with
    | some (.int _ n) => n
    | _ => 0)
  | _ => 0
def ZhK (k z : Nat) (m : ME) : List EV := ((List.range k).map fun j => EV.int .i64 (Z1 m j)) ++ List.replicate (z - k) .unk
theorem ZhL {k z : Nat} {b : Bool} {l : List EV} {r : ME} (hk : k ≤ z) (h : Zfu k z ((b, .agg l) :: r) = true) : (List.range z).map (fun j => ZlB l[j]?) = ZhK k z ((b, .agg l) :: r) := by
  simp only [Zfu, Bool.and_eq_true, beq_iff_eq] at h
  obtain ⟨⟨hl, h1⟩, h2⟩ := h
  refine List.ext_getElem? fun j => ?_
  unfold ZhK
  by_cases hj : j < k
  · have hjl : j < l.length := by omega
    rw [List.getElem?_append_left (by simpa using hj), List.getElem?_map, List.getElem?_map, List.getElem?_range hj, List.getElem?_range (by omega)]
    simp only [Option.map_some, Z1]
    have := List.all_eq_true.1 h1 l[j] (List.mem_iff_getElem?.2 ⟨j, by rw [List.getElem?_take_of_lt hj]; exact List.getElem?_eq_getElem hjl⟩)
    rw [List.getElem?_eq_getElem hjl]
    generalize l[j] = e at this
    unfold ZnG at this
    split at this
    · rfl
    · cases this
  · by_cases hz : j < z
    · have hjl : j < l.length := by omega
      rw [List.getElem?_append_right (by simp; omega), List.getElem?_map, List.getElem?_range hz, List.getElem?_replicate]
      simp only [List.length_map, List.length_range, Option.map_some]
      rw [if_pos (by omega)]
      have := List.all_eq_true.1 h2 l[j] (List.mem_iff_getElem?.2 ⟨j - k, by rw [List.getElem?_drop, show k + (j - k) = j by omega]; exact List.getElem?_eq_getElem hjl⟩)
      rw [List.getElem?_eq_getElem hjl]
      generalize l[j] = e at this
      unfold Zmy at this
      split at this
      · cases this
      · rename_i hne
        congr 1
        unfold ZlB
        split
        · rename_i k' n' e'
          simp only [Option.some.injEq] at e'
          exact (hne _ _ e').elim
        · rfl
    · rw [List.getElem?_eq_none (by simp; omega), List.getElem?_eq_none (by simp; omega)]
def Zgb (r z : Nat) (els : List ME) (o : Nat) (n : Option Nat) (K : EV → α) (w : α) : α :=
  match n with
  | none => if z = 0 then (if o < els.length then K (.tp r o) else w) else w
  | some n => if (0 < z ∧ n = z) ∧ Zga z ≤ z then (if o % z = 0 then optK els[o / z]? (fun m => if Zfu (Zga z) z m = true then K (.agg (ZhK (Zga z) z m)) else w) w else w) else w
theorem ZhM {r z : Nat} {els : List ME} {o : Nat} {n : Option Nat} {K : EV → α} {w : α} : ZK (Zgb r z els o n K w) (ZfF r z els o n) K w := by
  unfold Zgb ZfF
  cases n with
  | none => exact .ite fun h1 => .ite fun h2 => .of (if_pos ⟨h1, h2⟩)
  | some n =>
    refine .ite fun h1 => .ite fun h2 => ?_
    simp only
    rw [if_pos ⟨h1.1.1, h1.1.2, h2⟩]
    cases els[o / z]? with
    | none => exact .z
    | some m =>
      refine .ite fun h3 => ?_
      match m, h3 with
      | (b, .agg l) :: r', h3 => exact .of (by simp only; rw [ZhL h1.2 h3])
def Zap (CK : CallK) (at_ : Nat) (o : SO) (σ : Nat → EV) (h : List Row) (K : Eff → α) (z : α) : α :=
  match o with
  | .mv x => K { v := x.ev σ }
  | .pick c a b => match c.ev σ with
    | .bool t => cond t (K { v := a.ev σ }) (K { v := b.ev σ })
    | _ => z
  | .bin op ty x y => binK op ty (x.ev σ) (y.ev σ) (fun v => K { v }) z
  | .un op x => unK op (x.ev σ) (fun v => K { v }) z
  | .conv k x => match x.ev σ with
    | .int _ n => K { v := .int k (k.wrap n) }
    | _ => z
  | .build z0 ps => Zdt (Z5 σ ps) z0 (fun v => K { v }) z
  | .field off n x => match n with
    | none => if isAgg (x.ev σ) = true then Zf4 (x.ev σ) off (fun v => K { v }) z else z
    | some n => Zg2 (x.ev σ) off n (fun v => K { v }) z
  | .fieldAddr off x => match x.ev σ with
    | .ptr r o => K { v := .ptr r (o + off) }
    | .rp c o => K { v := .rp c (o + off) }
    | _ => z
  | .idxA len sz x i => match x.ev σ with
    | .ptr r o => idxK (i.ev σ) len (fun n => K { v := .ptr r (offN o n sz) }) z
    | .rp c o => idxK (i.ev σ) len (fun n => K { v := .rp c (offN o n sz) }) z
    | _ => z
  | .idxS sz x i => match x.ev σ with
    | .slice r o len s => if s = sz then idxK (i.ev σ) len (fun n => K { v := .ptr r (offN o n sz) }) z else z
    | .ro c len s => if s = sz then idxK (i.ev σ) len (fun n => K { v := .rp c (offN 0 n sz) }) z else z
    | _ => z
  | .idxV len sz ag x i => idxK (i.ev σ) len (fun n => cond ag (Zg2 (x.ev σ) (offN 0 n sz) sz (fun v => K { v }) z) (Zf4 (x.ev σ) (offN 0 n sz) (fun v => K { v }) z)) z
  | .idxStr x i => match x.ev σ with
    | .str s => idxK (i.ev σ) s.length (fun n => optK s[n]? (fun b => K { v := .int .u8 b.toNat }) z) z
    | _ => z
  | .extract x i => match x.ev σ with
    | .tup l => optK l[i]? (fun v => K { v }) z
    | _ => z
  | .nilck x => match x.ev σ with
    | .ptr r o => K { v := .ptr r o }
    | .rp c o => K { v := .rp c o }
    | _ => z
  | .slStr x lo hi => match x.ev σ with
    | .str s => ZbQ (hi.map (·.ev σ)) s.length s.length (fun b => ZbQ (lo.map (·.ev σ)) 0 b (fun a => K { v := .str ((s.drop a).take (b - a)) }) z) z
    | _ => z
  | .slS sz x lo hi => match x.ev σ with
    | .slice r o len s => if s = sz then ZbQ (hi.map (·.ev σ)) len len (fun b => ZbQ (lo.map (·.ev σ)) 0 b (fun a => K { v := .slice r (offN o a sz) (b - a) sz }) z) z else z
    | .nils => ZbQ (hi.map (·.ev σ)) 0 0 (fun b => ZbQ (lo.map (·.ev σ)) 0 b (fun _ => K { v := .nils }) z) z
    | .ro c len s => if s = sz then ZbQ (hi.map (·.ev σ)) len len (fun b => ZbQ (lo.map (·.ev σ)) 0 b (fun a => if a = 0 then K { v := .ro (Ze8 c (b * s)) b s } else z) z) z else z
    | _ => z
  | .slA n sz x lo hi => match x.ev σ with
    | .ptr r o => ZbQ (hi.map (·.ev σ)) n n (fun b => ZbQ (lo.map (·.ev σ)) 0 b (fun a =>
        match h[r]? with
        | some row => if isAgg row.c = true then (if o + n * sz ≤ clen row.c then K { v := .slice r (offN o a sz) (b - a) sz } else z) else z
        | none => z) z) z
    | _ => z
  | .len k x => match k, x.ev σ with
    | .const n, _ => K { v := .int .i64 n }
    | .str, .str s => K { v := .int .i64 s.length }
    | .slice, .slice _ _ n _ => K { v := .int .i64 n }
    | .slice, .nils => K { v := .int .i64 0 }
    | .slice, .ro _ n _ => K { v := .int .i64 n }
    | _, _ => z
  | .mx m l => match l.map (·.ev σ) with
    | [] => z
    | a :: r => optK (mxL m a r) (fun v => K { v }) z
  | .callP f args =>
    match ZI (args.map (·.ev σ)) with
    | [] => CK.k α f (args.map (·.ev σ)) [] (fun x => match x with
      | (v, [], []) => K { v }
      | _ => z) z
    | _ => z
  | .mkfn f a b => K { v := .fn f (a.map (·.ev σ)) (b.map (·.ev σ)) }
  | .alloc z0 => if fresh h at_ = true then (if isAgg z0 = true then K { v := .ptr at_ 0, upd := [(at_, ⟨true, z0⟩)] } else z) else z
  | .box x => if fresh h at_ = true then (if (isAgg (x.ev σ) || ZM (x.ev σ)) = true then K { v := .ptr at_ 0, upd := [(at_, ⟨true, ZfE (x.ev σ)⟩)] } else z) else z
  | .bslice sz len z0 ps => if fresh h at_ = true then Zdt (Z5 σ ps) (crep len z0) (fun c => K { v := .slice at_ 0 len sz, upd := [(at_, ⟨true, c⟩)] }) z else z
  | .bsliceF ks sz len z0 ps => if fresh h at_ = true then Zdt (Z5 σ ps) (crep len z0) (fun c => ZnF h (Zbe (Z5 σ ps)) ks c (fun x => K (ZcR h ks at_ len sz x)) z) z else z
  | .mkslice sz bytes z0 n c => match n.ev σ, c.ev σ with
    | .int .i64 a, .int .i64 b => if fresh h at_ = true then (if a = b then (if 0 ≤ a then (if bytes * a ≤ 140737488355328 then (if a ≤ 9223372036854775807 then K { v := .slice at_ 0 a.toNat sz, upd := [(at_, ⟨true, crep a.toNat z0⟩)] } else z) else z) else z) else z) else z
    | _, _ => z
  | .load n a => match a.ev σ with
    | .ptr r o => match h[r]? with
      | some row => match n with
        | none => Zf4 row.c o (fun v => K { v }) z
        | some n => Zg2 row.c o n (fun v => K { v }) z
      | none => z
    | .rp c o => match n with
      | none => Zf4 c o (fun v => K { v }) z
      | some n => Zg2 c o n (fun v => K { v }) z
    | _ => z
  | .store n a x => match a.ev σ with
    | .ptr r o => match h[r]? with
      | some row => if row.own = true then (if clen (x.ev σ) = n then ZkG row.c o (x.ev σ) (fun c => K { v := .unk, upd := [(r, ⟨true, c⟩)] }) z else z) else z
      | none => z
    | _ => z
  | .app sz bytes s x =>
    match s.ev σ with
    | .nils => if Zax (x.ev σ) = 0 then Zdd h sz (x.ev σ) (fun _ => K { v := .nils }) z
        else if fresh h at_ = true then (if Zax (x.ev σ) * bytes ≤ 70368744177664 then
          Zdd h sz (x.ev σ) (fun c => K { v := .slice at_ 0 (Zax (x.ev σ)) sz, upd := [(at_, ⟨true, ZfD sz c⟩)] }) z
        else z) else z
    | .slice r o m s => if fresh h at_ = true then (if s = sz then (if o = 0 then (if (m + Zax (x.ev σ)) * bytes ≤ 70368744177664 then
        match h[r]? with
        | some row => if row.own = true then (if clen row.c = m * sz then
            Zdd h sz (x.ev σ) (fun c0 => ZmZ row.c c0 (fun c => K { v := .slice at_ 0 (m + Zax (x.ev σ)) sz, upd := [(r, ⟨true, .unk⟩), (at_, ⟨true, c⟩)], mvs := [(r, at_)] }) z) z
          else z) else z
        | none => z
      else z) else z) else z) else z
    | _ => z
  | .copy sz d s =>
    match d.ev σ with
    | .slice r o m s' => if s' = sz then (if Zh2 (s.ev σ) = true then K { v := .int .i64 0 } else
        match h[r]? with
        | some row => if row.own = true then Zf7 h sz (min (Zax (s.ev σ)) m) (s.ev σ) (fun x => ZkG row.c o x (fun c => K { v := .int .i64 (min (Zax (s.ev σ)) m : Nat), upd := [(r, ⟨true, c⟩)] }) z) z else z
        | none => z)
      else z
    | .nils => match s.ev σ with
      | .nils => K { v := .int .i64 0 }
      | .slice _ _ _ _ => K { v := .int .i64 0 }
      | .ro _ _ _ => K { v := .int .i64 0 }
      | _ => z
    | _ => z
  | .toStr x => match x.ev σ with
    | .nils => K { v := .str [] }
    | .slice r o n s => match h[r]? with
      | some row => Ze2 row.c o n (fun c => optK (ZcE c) (fun s => K { v := .str s }) z) z
      | none => z
    | .ro c n s => Ze2 c 0 n (fun c => optK (ZcE c) (fun s => K { v := .str s }) z) z
    | _ => z
  | .call f args => Zf8 CK f (args.map (·.ev σ)) h K z
  | .callB f bs args => Zf9 CK f bs (args.map (·.ev σ)) h K z
  | .callv g args => match g.ev σ with
    | .fn f a b => Zf8 CK f (a ++ args.map (·.ev σ) ++ b) h K z
    | _ => z
  | .loadT n a => match a.ev σ with
    | .ptr r o => match h[r]? with
      | some row => (match row.c with
        | .tree s els => Zgb r s els o n (fun v => K { v }) z
        | c => match n with
          | none => Zf4 c o (fun v => K { v }) z
          | some n => Zg2 c o n (fun v => K { v }) z)
      | none => z
    | .rp c o => match n with
      | none => Zf4 c o (fun v => K { v }) z
      | some n => Zg2 c o n (fun v => K { v }) z
    | _ => z
  | .callT f s args => match args.map (·.ev σ) with
    | a :: as => ZhJ h s a (fun r els i m => CK.t α f s m as (fun x y m' => K { v := .ints .i64 [x, y], upd := [(r, ⟨false, .tree s (els.set i m')⟩)] }) z) z
    | [] => z
  | .appT s bytes x y => match y.ev σ with
    | .slice t 0 1 zz => if fresh h at_ = true then (if zz = max s 1 then (match h[t]? with
      | some row => (match row.own, row.c with
        | true, .agg l => if l.length = zz then (match Za4 h s t l with
          | some (m, ids) => if ZbU s m = true then (if ids.contains at_ = false then (match x.ev σ with
            | .nils => if bytes ≤ 70368744177664 then K { v := .slice at_ 0 1 zz, upd := (at_, ⟨false, .tree s [m]⟩) :: (t :: ids).map fun r => (r, ⟨true, .unk⟩) } else z
            | .slice r o n zz' => if o = 0 then (match h[r]? with
              | some row2 => (match row2.c with
                | .tree s' els => if s' = s ∧ zz' = zz then (if n = els.length then (if (n + 1) * bytes ≤ 70368744177664 then
                    K { v := .slice at_ 0 (n + 1) zz, upd := (r, ⟨true, .unk⟩) :: (at_, ⟨false, .tree s (els ++ [m])⟩) :: (t :: ids).map fun r => (r, ⟨true, .unk⟩), mvs := [(r, at_)] } else z) else z) else z
                | _ => z)
              | none => z) else z
            | _ => z) else z) else z
          | none => z) else z
        | _, _ => z)
      | none => z) else z) else z
    | _ => z
theorem ZiK {CK : CallK} {C : ZS} (hC : Zx CK C) {at_ : Nat} {o : SO} {σ : Nat → EV} {h : List Row} {K : Eff → α} {z : α} : ZK (Zap CK at_ o σ h K z) (evOp C at_ o σ h) K z := by
  cases o with
  | mv x => exact .some
  | pick c a b =>
    simp only [Zap, evOp]
    generalize c.ev σ = v
    cases v <;> try exact .z
    rename_i t
    cases t <;> exact .some
  | bin op ty x y => exact .map ZmW
  | un op x => simp only [Zap, evOp]; exact .map ZnE
  | conv k x =>
    simp only [Zap, evOp]
    generalize x.ev σ = v
    cases v <;> first | exact .z | exact .some
  | build z0 ps => exact .map Zco
  | field off n x =>
    simp only [Zap, evOp]
    cases n with
    | none => exact .ite fun h => by simp only [h, if_true]; exact .map ZbM
    | some n => exact .map Zcn
  | fieldAddr off x =>
    simp only [Zap, evOp]
    generalize x.ev σ = v
    cases v <;> first | exact .z | exact .some
  | idxA len sz x i =>
    simp only [Zap, evOp, ZeO]
    generalize x.ev σ = v
    cases v <;> first | exact .z | exact .map Zf6
  | idxS sz x i =>
    simp only [Zap, evOp, ZeO, Nat.zero_add]
    generalize x.ev σ = v
    cases v <;> first | exact .z | exact .ite fun h => by simp only [h, if_true]; exact .map Zf6
  | idxV len sz ag x i =>
    simp only [Zap, evOp, ZeO, Nat.zero_add]
    refine .bind Zf6 fun n _ => ?_
    cases ag
    · simp only [cond_false, Bool.false_eq_true, if_false]; exact .map ZbM
    · simp only [cond_true, if_true]; exact .map Zcn
  | idxStr x i =>
    simp only [Zap, evOp]
    generalize x.ev σ = v
    cases v <;> first | exact .z | exact .bind Zf6 fun n _ => .map Zal
  | extract x i =>
    simp only [Zap, evOp]
    generalize x.ev σ = v
    cases v <;> first | exact .z | exact .map Zal
  | nilck x =>
    simp only [Zap, evOp]
    generalize x.ev σ = v
    cases v <;> first | exact .z | exact .some
  | slStr x lo hi =>
    simp only [Zap, evOp]
    generalize x.ev σ = v
    cases v <;> first | exact .z | exact .bind Zas fun b _ => .map Zas
  | slS sz x lo hi =>
    simp only [Zap, evOp, ZeO]
    generalize x.ev σ = v
    cases v <;> first
      | exact .z
      | exact .bind Zas fun b _ => .map Zas
      | exact .ite fun h => by simp only [h, if_true]; exact .bind Zas fun b _ => .map Zas
      | exact .ite fun h => by simp only [h, if_true]; exact .bind Zas fun b _ => .bind Zas fun a _ => .ite fun h0 => by rw [if_pos h0]; exact .some
  | slA n sz x lo hi =>
    simp only [Zap, evOp, ZeO]
    generalize x.ev σ = v
    cases v <;> try exact .z
    rename_i r o
    refine .bind Zas fun b _ => .bind Zas fun a _ => ?_
    cases h[r]? <;> try exact .z
    exact .ite fun h1 => .ite fun h2 => .of (by simp [h1, h2])
  | len k x =>
    simp only [Zap, evOp]
    generalize x.ev σ = v
    cases k <;> cases v <;> first | exact .z | exact .some
  | mx m l =>
    simp only [Zap, evOp]
    generalize l.map (·.ev σ) = v
    cases v <;> first | exact .z | exact .map Zal
  | callP f args =>
    simp only [Zap, evOp]
    generalize args.map (·.ev σ) = as
    cases ZI as <;> try exact .z
    simp only
    rcases hC.1 α f as [] (fun x => match x with
      | (v, [], []) => K { v }
      | _ => z) z with e | ⟨⟨r, rows', mv⟩, hb, e⟩
    · exact .inl e
    · rw [e, hb]
      cases rows' with
      | nil => cases mv with
        | nil => exact .some
        | cons _ _ => exact .z
      | cons _ _ => exact .z
  | mkfn f a b => exact .some
  | alloc z0 =>
    simp only [Zap, evOp]
    exact .ite fun h1 => .ite fun h2 => .of (by simp [h1, h2])
  | box x =>
    simp only [Zap, evOp]
    exact .ite fun h1 => .ite fun h2 => .of (by rw [if_pos]; rw [h1, h2]; rfl)
  | bslice sz len z0 ps =>
    simp only [Zap, evOp]
    exact .ite fun h1 => by rw [if_pos h1]; exact .map Zco
  | bsliceF ks sz len z0 ps =>
    simp only [Zap, evOp]
    exact .ite fun h1 => by rw [if_pos h1]; exact .bind Zco fun c _ => .map ZlT
  | mkslice sz bytes z0 n c =>
    simp only [Zap, evOp]
    generalize n.ev σ = v
    generalize c.ev σ = u
    cases v <;> try exact .z
    rename_i k a
    cases k <;> try exact .z
    cases u <;> try exact .z
    rename_i k b
    cases k <;> try exact .z
    exact .ite fun h1 => .ite fun h2 => .ite fun h3 => .ite fun h4 => .ite fun h5 => .of (if_pos ⟨h1, h2, h3, h4, h5⟩)
  | load n a =>
    simp only [Zap, evOp]
    generalize a.ev σ = v
    cases v <;> try exact .z
    · rename_i r o
      simp only
      cases h[r]? <;> try exact .z
      cases n with
      | none => exact .map ZbM
      | some n => exact .map Zcn
    · cases n with
      | none => exact .map ZbM
      | some n => exact .map Zcn
  | store n a x =>
    simp only [Zap, evOp]
    generalize a.ev σ = v
    cases v <;> try exact .z
    rename_i r o
    simp only
    cases h[r]? <;> try exact .z
    refine .ite fun h1 => .ite fun h2 => ?_
    simp only [h1, h2, beq_self_eq_true, Bool.and_self, if_true]
    exact .map Zf5
  | app sz bytes s x =>
    simp only [Zap, evOp]
    generalize s.ev σ = v
    generalize x.ev σ = u
    cases v <;> try exact .z
    · simp only
      by_cases h0 : Zax u = 0
      · rw [if_pos h0, if_pos h0]
        exact .map ZcM
      · rw [if_neg h0, if_neg h0]
        refine .ite fun h1 => .ite fun h2 => ?_
        rw [if_pos ⟨h1, h2⟩]
        exact .map ZcM
    · rename_i r o m s
      simp only
      refine .ite fun h1 => .ite fun h2 => .ite fun h3 => .ite fun h4 => ?_
      rw [if_pos ⟨h1, h2, h3, h4⟩]
      cases h[r]? <;> try exact .z
      refine .ite fun h5 => .ite fun h6 => ?_
      simp only [h5, h6, beq_self_eq_true, Bool.and_self, if_true]
      exact .map (.bind ZcM fun b _ => ZlS)
  | copy sz d s =>
    simp only [Zap, evOp]
    generalize d.ev σ = v
    generalize s.ev σ = u
    cases v <;> try exact .z
    · cases u <;> first | exact .z | exact .some
    · rename_i r o m s'
      refine .ite fun h1 => ?_
      simp only [h1, if_true]
      by_cases hn : Zh2 u = true
      · rw [if_pos hn, if_pos hn]; exact .some
      · rw [if_neg hn, if_neg hn]
        cases h[r]? <;> try exact .z
        exact .ite fun h2 => by simp only [h2, if_true]; exact .bind ZhG fun b _ => .map Zf5
  | toStr x =>
    simp only [Zap, evOp]
    generalize x.ev σ = v
    cases v <;> try exact .z
    · exact .some
    · rename_i r o n s
      simp only
      cases h[r]? <;> try exact .z
      exact .bind Zbk fun b _ => .map Zal
    · exact .bind Zbk fun b _ => .map Zal
  | call f args => exact Zft hC
  | callB f bs args => exact ZhI hC
  | callv g args =>
    simp only [Zap, evOp]
    generalize g.ev σ = v
    cases v <;> first | exact .z | exact Zft hC
  | loadT n a =>
    simp only [Zap, evOp]
    generalize a.ev σ = v
    cases v <;> try exact .z
    · rename_i r o
      simp only
      cases hr : h[r]? with
      | none => exact .z
      | some row =>
      obtain ⟨ow, c⟩ := row
      cases c
      case tree s els => exact .map ZhM
      all_goals (cases n with
        | none => exact .map ZbM
        | some n => exact .map Zcn)
    · cases n with
      | none => exact .map ZbM
      | some n => exact .map Zcn
  | callT f s args =>
    simp only [Zap, evOp]
    generalize args.map (·.ev σ) = as
    cases as with
    | nil => exact .z
    | cons a as =>
      simp only
      rcases Zjs (h := h) (z := s) (a := a) (K := fun r els i m => CK.t α f s m as (fun x y m' => K { v := .ints .i64 [x, y], upd := [(r, ⟨false, .tree s (els.set i m')⟩)] }) z) (w := z) with e | ⟨⟨r, els, i, m⟩, hb, e⟩
      · exact .inl e
      · rw [e, hb]
        rcases hC.2 α f s m as (fun x y m' => K { v := .ints .i64 [x, y], upd := [(r, ⟨false, .tree s (els.set i m')⟩)] }) z with e2 | ⟨x, y, m', h2, e2⟩
        · exact .inl e2
        · refine .inr ⟨_, ?_, e2⟩
          simp only [h2, Option.map_some]
  | appT s bytes x y =>
    simp only [Zap, evOp]
    generalize y.ev σ = v
    generalize x.ev σ = u
    split
    · rename_i t zz
      simp only
      refine .ite fun h1 => .ite fun h2 => ?_
      rw [if_pos ⟨h1, h2⟩]
      cases h[t]? with
      | none => exact .z
      | some row =>
        obtain ⟨ow, c⟩ := row
        simp only
        cases ow
        · exact .z
        · cases c <;> try exact .z
          rename_i l
          refine .ite fun h3 => ?_
          simp only
          rw [if_pos h3]
          cases Za4 h s t l with
          | none => exact .z
          | some p =>
            obtain ⟨m, ids⟩ := p
            refine .ite fun h4 => .ite fun h5 => ?_
            simp only
            rw [if_pos (show ZbU s m = true ∧ ids.contains at_ = false from ⟨h4, h5⟩)]
            cases u <;> try exact .z
            · simp only
              exact .ite fun h6 => .of (if_pos h6)
            · rename_i r o n zz'
              refine .ite fun h6 => ?_
              subst h6
              simp only
              cases h[r]? with
              | none => exact .z
              | some row2 =>
                obtain ⟨ow2, c2⟩ := row2
                cases c2 <;> try exact .z
                exact .ite fun h7 => .ite fun h8 => .ite fun h9 => .of (if_pos ⟨h7.1, h8, h7.2, h9⟩)
    · exact .z
end
end Go.Sx
