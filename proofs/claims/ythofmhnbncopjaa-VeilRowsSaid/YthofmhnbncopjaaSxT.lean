/-
  The abstract machine with continuations: what it makes of values that are not known, as a tree of tests. Conditions: none.
-/
import Derived.Test.YthofmhnbncopjaaSxS
namespace Go.Sx
open Go
set_option linter.unusedVariables false

/-- r is z, or what K makes of o's value. -/
def Leads {β α : Type} (r : α) (o : Option β) (K : β → α) (z : α) : Prop := r = z ∨ ∃ b, o = some b ∧ r = K b

section
variable {α β γ : Type}
theorem Leads.z {o : Option β} {K : β → α} {z : α} : Leads z o K z := .inl rfl
theorem Leads.some {b : β} {K : β → α} {z : α} : Leads (K b) (some b) K z := .inr ⟨b, rfl, rfl⟩
theorem Leads.of {o : Option β} {b : β} {K : β → α} {z : α} (h : o = .some b) : Leads (K b) o K z := .inr ⟨b, h, rfl⟩
theorem Leads.bind {r : α} {o : Option β} {f : β → Option γ} {K' : β → α} {K : γ → α} {z : α} (h : Leads r o K' z) (hf : ∀ b, o = .some b → Leads (K' b) (f b) K z) : Leads r (o.bind f) K z := by
  rcases h with h | ⟨b, hb, h⟩
  · exact .inl h
  · rcases hf b hb with h' | ⟨c, hc, h'⟩
    · exact .inl (h.trans h')
    · exact .inr ⟨c, by rw [hb]; exact hc, h.trans h'⟩
theorem Leads.map {r : α} {o : Option β} {f : β → γ} {K : γ → α} {z : α} (h : Leads r o (fun b => K (f b)) z) : Leads r (o.map f) K z := by
  rcases h with h | ⟨b, hb, h⟩
  · exact .inl h
  · exact .inr ⟨f b, by rw [hb]; rfl, h⟩
theorem Leads.map' {r : α} {o : Option β} {o' : Option γ} {f : β → γ} {K : γ → α} {z : α} (e : o' = o.map f) (h : Leads r o (fun b => K (f b)) z) : Leads r o' K z := by rw [e]; exact h.map
theorem Leads.ite {c : Prop} [Decidable c] {r : α} {o : Option β} {K : β → α} {z : α} (h : c → Leads r o K z) : Leads (if c then r else z) o K z := by
  by_cases hc : c
  · rw [if_pos hc]; exact h hc
  · rw [if_neg hc]; exact .z
theorem Leads.ite' {c : Prop} [Decidable c] {r : α} {o : Option β} {K : β → α} {z : α} (h : ¬ c → Leads r o K z) : Leads (if c then z else r) o K z := by
  by_cases hc : c
  · rw [if_pos hc]; exact .z
  · rw [if_neg hc]; exact h hc
theorem Leads.cond {b : Bool} {r s : α} {o : Option β} {K : β → α} {z : α} (h1 : b = true → Leads r o K z) (h2 : b = false → Leads s o K z) : Leads (cond b r s) o K z := by
  cases b
  · exact h2 rfl
  · exact h1 rfl

def optK (o : Option β) (K : β → α) (z : α) : α := match o with
  | some b => K b
  | none => z
theorem optK_ok {o : Option β} {K : β → α} {z : α} : Leads (optK o K z) o K z := by
  cases o
  · exact .z
  · exact .some

/-! ### Values -/
def bAnd (k : IntKind) (a b : Int) : Int := k.wrap (BitVec.ofInt k.bits a &&& BitVec.ofInt k.bits b).toNat
def bOr (k : IntKind) (a b : Int) : Int := k.wrap (BitVec.ofInt k.bits a ||| BitVec.ofInt k.bits b).toNat
def bXor (k : IntKind) (a b : Int) : Int := k.wrap (BitVec.ofInt k.bits a ^^^ BitVec.ofInt k.bits b).toNat
def bAndNot (k : IntKind) (a b : Int) : Int := k.wrap (BitVec.ofInt k.bits a &&& ~~~BitVec.ofInt k.bits b).toNat
def shlI (k : IntKind) (a b : Int) : Int := k.wrap (a * 2 ^ (min b.toNat k.bits))
def shrI (k : IntKind) (a b : Int) : Int := a.fdiv (2 ^ (min b.toNat k.bits))

def binIntK (op : BinOp) (k : IntKind) (a b : Int) (K : EV → α) (z : α) : α :=
  match op with
  | .add => K (.int k (k.wrap (a + b)))
  | .sub => K (.int k (k.wrap (a - b)))
  | .mul => K (.int k (k.wrap (a * b)))
  | .quo => if b = 0 then z else K (.int k (k.wrap (a.tdiv b)))
  | .rem => if b = 0 then z else K (.int k (a.tmod b))
  | .eql => K (.bool (decide (a = b)))
  | .neq => K (.bool (decide (a ≠ b)))
  | .lss => K (.bool (decide (a < b)))
  | .leq => K (.bool (decide (a ≤ b)))
  | .gtr => K (.bool (decide (b < a)))
  | .geq => K (.bool (decide (b ≤ a)))
  | .and => K (.int k (bAnd k a b))
  | .or => K (.int k (bOr k a b))
  | .xor => K (.int k (bXor k a b))
  | .andNot => K (.int k (bAndNot k a b))
  | _ => z
theorem binIntK_ok {op : BinOp} {k : IntKind} {a b : Int} {K : EV → α} {z : α} : Leads (binIntK op k a b K z) (binInt op k a b) K z := by
  cases op <;> simp only [binIntK, binInt, bitsOf, Option.map_some] <;> first
    | exact .z
    | exact .some
    | exact .ite' fun h => by rw [if_neg h]; exact .some
    | (refine .of ?_; congr 2; rw [Bool.eq_iff_iff]; simp)

def binShiftK (op : BinOp) (k : IntKind) (a b : Int) (K : EV → α) (z : α) : α :=
  if b < 0 then z else
  match op with
  | .shl => K (.int k (shlI k a b))
  | .shr => K (.int k (shrI k a b))
  | _ => z
theorem binShiftK_ok {op : BinOp} {k : IntKind} {a b : Int} {K : EV → α} {z : α} : Leads (binShiftK op k a b K z) (binShift op k a b) K z := by
  unfold binShiftK binShift
  refine .ite' fun h => ?_
  rw [if_neg h]
  cases op <;> first
    | exact .z
    | exact .some

def eqAggK (l : List BT) (a b : EV) (K : Bool → α) (z : α) : α :=
  match a, b with
  | .ints k x, .ints k' y => if k = k' then (if l.all BT.isInt = true then (if x.length = l.length then (if y.length = l.length then K (decide (x = y)) else z) else z) else z) else z
  | a, b => optK (eqAgg l a b) K z
theorem eqAggK_ok {l : List BT} {a b : EV} {K : Bool → α} {z : α} : Leads (eqAggK l a b K z) (eqAgg l a b) K z := by
  unfold eqAggK
  split
  · refine .ite fun h1 => .ite fun h2 => .ite fun h3 => .ite fun h4 => .of ?_
    simp only [eqAgg]
    rw [if_pos ⟨h1, h3, h4, h2⟩]
    congr 1
    rw [Bool.eq_iff_iff]; simp
  · exact optK_ok

def binK (op : BinOp) (ty : BT) (x y : EV) (K : EV → α) (z : α) : α :=
  match x, y with
  | .int k a, .int k' b =>
    match op with
    | .shl => binShiftK .shl k a b K z
    | .shr => binShiftK .shr k a b K z
    | op => if k = k' then binIntK op k a b K z else z
  | .str a, .str b =>
    match op with
    | .add => if a.length + b.length ≤ 9223372036854775807 then K (.str (a ++ b)) else z
    | .eql => K (.bool (decide (a = b)))
    | .neq => K (.bool (decide (a ≠ b)))
    | _ => z
  | .bool a, .bool b => match op, ty with
    | .eql, .bool => K (.bool (decide (a = b)))
    | .neq, .bool => K (.bool (decide (a ≠ b)))
    | _, _ => z
  | x, y => match op, ty with
    | .eql, .cells l => eqAggK l x y (fun b => K (.bool b)) z
    | .neq, .cells l => eqAggK l x y (fun b => K (.bool (!b))) z
    | op, ty => optK (binEv op ty x y) K z
theorem binK_ok {op : BinOp} {ty : BT} {x y : EV} {K : EV → α} {z : α} : Leads (binK op ty x y K z) (binEv op ty x y) K z := by
  unfold binK
  split
  · rename_i k a k' b
    split
    · exact binShiftK_ok
    · exact binShiftK_ok
    · rename_i h1 h2
      refine .ite fun h => ?_
      subst h
      have e : binEv op ty (.int k a) (.int k b) = binInt op k a b := by
        cases op <;> first | (simp [binEv]; done) | exact absurd rfl h1 | exact absurd rfl h2
      rw [e]
      exact binIntK_ok
  · split
    · exact .ite fun h => .of (by simp [binEv, h])
    · refine .of ?_
      simp only [binEv]
      congr 2
      rw [Bool.eq_iff_iff]; simp
    · refine .of ?_
      simp only [binEv]
      congr 2
      rw [Bool.eq_iff_iff]; simp
    · exact .z
  · split
    · exact .of rfl
    · refine .of ?_
      show some (EV.bool (!(_ == _))) = _
      congr 2
      rw [Bool.eq_iff_iff]; simp
    · exact .z
  · rename_i h1 h2 h3
    split
    · refine .map' ?_ eqAggK_ok
      unfold binEv
      split
      · exact (h1 _ _ _ _ rfl rfl).elim
      · exact (h2 _ _ rfl rfl).elim
      · exact (h3 _ _ rfl rfl).elim
      · rfl
    · refine .map' ?_ eqAggK_ok
      unfold binEv
      split
      · exact (h1 _ _ _ _ rfl rfl).elim
      · exact (h2 _ _ rfl rfl).elim
      · exact (h3 _ _ rfl rfl).elim
      · rfl
    · exact optK_ok

def unK (op : UnOp) (x : EV) (K : EV → α) (z : α) : α :=
  match op, x with
  | .neg, .int k n => K (.int k (k.wrap (0 - n)))
  | .xor, .int k n => K (.int k (bXor k (if k.signed then -1 else k.max) n))
  | .not, .bool b => K (.bool (!b))
  | _, _ => z
theorem unK_ok {op : UnOp} {x : EV} {K : EV → α} {z : α} : Leads (unK op x K z) (unEv op x) K z := by
  unfold unK
  split
  · exact .some
  · exact .of rfl
  · exact .some
  · exact .z

/-- The kind of a cell of a mixed list: by runs of places of one kind. -/
def runsG : CK → Nat → List CK → List (CK × Nat)
  | k, p, [] => [(k, p)]
  | k, p, q :: r => if k = q then runsG k (p + 1) r else (k, p) :: runsG q (p + 1) r
def kindR : List (CK × Nat) → Nat → (CK → α) → α
  | [], _, K => K .bool
  | (k, e) :: r, m, K => match r with
    | [] => K k
    | r => if m < e then K k else kindR r m K
theorem runsG_ne (k : CK) (p : Nat) : ∀ r, runsG k p r ≠ []
  | [] => by simp [runsG]
  | q :: r => by
    unfold runsG
    split
    · rename_i e; subst e; exact runsG_ne k (p + 1) r
    · simp
theorem kindR_eq : ∀ (r : List CK) (k : CK) (p m : Nat) (K : CK → α), m < p + r.length → kindR (runsG k p r) m K = if m < p then K k else K (r.getD (m - p) .bool)
  | [], k, p, m, K, h => by rw [if_pos (by simpa using h)]; rfl
  | q :: r, k, p, m, K, h => by
    have hl : m < p + 1 + r.length := by simp at h; omega
    have key : ∀ k', (if m < p + 1 then K k' else K (r.getD (m - (p + 1)) .bool)) = if m < p then K k' else if m = p then K k' else K ((q :: r).getD (m - p) .bool) := fun k' => by
      by_cases h1 : m < p
      · rw [if_pos h1, if_pos (by omega)]
      · by_cases h2 : m = p
        · rw [if_neg h1, if_pos h2, if_pos (by omega)]
        · rw [if_neg h1, if_neg h2, if_neg (by omega), show m - p = (m - (p + 1)) + 1 by omega]; rfl
    unfold runsG
    split
    · rename_i e
      subst e
      rw [kindR_eq r k (p + 1) m K hl, key]
      by_cases h1 : m < p
      · rw [if_pos h1, if_pos h1]
      · rw [if_neg h1, if_neg h1]
        by_cases h2 : m = p
        · rw [if_pos h2, h2, Nat.sub_self]; rfl
        · rw [if_neg h2]
    · have hne := runsG_ne q (p + 1) r
      have e0 : kindR ((k, p) :: runsG q (p + 1) r) m K = if m < p then K k else kindR (runsG q (p + 1) r) m K := by
        cases hr : runsG q (p + 1) r with
        | nil => exact absurd hr hne
        | cons a b => rfl
      rw [e0, kindR_eq r q (p + 1) m K hl, key]
      by_cases h1 : m < p
      · rw [if_pos h1, if_pos h1]
      · rw [if_neg h1, if_neg h1, if_neg h1]
        by_cases h2 : m = p
        · rw [if_pos h2, h2, Nat.sub_self]; rfl
        · rw [if_neg h2]
def kindK (ks : List CK) (i : Nat) (K : CK → α) : α := match ks with
  | [] => K .bool
  | k :: r => match r with
    | [] => K k
    | q :: r => kindR (runsG k 1 (q :: r)) (i % (k :: q :: r).length) K
theorem kindK_eq (ks : List CK) (i : Nat) (K : CK → α) : kindK ks i K = K (kindAt ks i) := by
  unfold kindK
  split
  · rfl
  · split
    · rw [kindAt_one]
    · rename_i k _ q r
      have hm : i % (k :: q :: r).length < (k :: q :: r).length := Nat.mod_lt _ (by simp)
      rw [kindR_eq _ _ _ _ _ (by simp at hm ⊢; omega)]
      unfold kindAt
      generalize i % (k :: q :: r).length = m at *
      cases m with
      | zero => rfl
      | succ m => rw [if_neg (by omega), Nat.add_sub_cancel]; rfl
/-- The kind of a cell of a list of records: by runs of places of one kind. -/
def runsN : NK → Nat → List NK → List (NK × Nat)
  | k, p, [] => [(k, p)]
  | k, p, q :: r => if k = q then runsN k (p + 1) r else (k, p) :: runsN q (p + 1) r
def kindRN : List (NK × Nat) → Nat → (NK → α) → α
  | [], _, K => K (.c .any)
  | (k, e) :: r, m, K => match r with
    | [] => K k
    | r => if m < e then K k else kindRN r m K
theorem runsN_ne (k : NK) (p : Nat) : ∀ r, runsN k p r ≠ []
  | [] => by simp [runsN]
  | q :: r => by
    unfold runsN
    split
    · rename_i e; subst e; exact runsN_ne k (p + 1) r
    · simp
theorem kindRN_eq : ∀ (r : List NK) (k : NK) (p m : Nat) (K : NK → α), m < p + r.length → kindRN (runsN k p r) m K = if m < p then K k else K (r.getD (m - p) (.c .any))
  | [], k, p, m, K, h => by rw [if_pos (by simpa using h)]; rfl
  | q :: r, k, p, m, K, h => by
    have hl : m < p + 1 + r.length := by simp at h; omega
    have key : ∀ k', (if m < p + 1 then K k' else K (r.getD (m - (p + 1)) (.c .any))) = if m < p then K k' else if m = p then K k' else K ((q :: r).getD (m - p) (.c .any)) := fun k' => by
      by_cases h1 : m < p
      · rw [if_pos h1, if_pos (by omega)]
      · by_cases h2 : m = p
        · rw [if_neg h1, if_pos h2, if_pos (by omega)]
        · rw [if_neg h1, if_neg h2, if_neg (by omega), show m - p = (m - (p + 1)) + 1 by omega]; rfl
    unfold runsN
    split
    · rename_i e
      subst e
      rw [kindRN_eq r k (p + 1) m K hl, key]
      by_cases h1 : m < p
      · rw [if_pos h1, if_pos h1]
      · rw [if_neg h1, if_neg h1]
        by_cases h2 : m = p
        · rw [if_pos h2, h2, Nat.sub_self]; rfl
        · rw [if_neg h2]
    · have hne := runsN_ne q (p + 1) r
      have e0 : kindRN ((k, p) :: runsN q (p + 1) r) m K = if m < p then K k else kindRN (runsN q (p + 1) r) m K := by
        cases hr : runsN q (p + 1) r with
        | nil => exact absurd hr hne
        | cons a b => rfl
      rw [e0, kindRN_eq r q (p + 1) m K hl, key]
      by_cases h1 : m < p
      · rw [if_pos h1, if_pos h1]
      · rw [if_neg h1, if_neg h1, if_neg h1]
        by_cases h2 : m = p
        · rw [if_pos h2, h2, Nat.sub_self]; rfl
        · rw [if_neg h2]
def kindNK (ks : List NK) (i : Nat) (K : NK → α) : α := match ks with
  | [] => K (.c .any)
  | k :: r => match r with
    | [] => K k
    | q :: r => kindRN (runsN k 1 (q :: r)) (i % (k :: q :: r).length) K
theorem kindNK_eq (ks : List NK) (i : Nat) (K : NK → α) : kindNK ks i K = K (kindN ks i) := by
  unfold kindNK
  split
  · rfl
  · split
    · rw [kindN_one]
    · rename_i k _ q r
      have hm : i % (k :: q :: r).length < (k :: q :: r).length := Nat.mod_lt _ (by simp)
      rw [kindRN_eq _ _ _ _ _ (by simp at hm ⊢; omega)]
      unfold kindN
      generalize i % (k :: q :: r).length = m at *
      cases m with
      | zero => rfl
      | succ m => rw [if_neg (by omega), Nat.add_sub_cancel]; rfl
def decK (k : NK) (x : NC) (K : EV → α) : α := match k with
  | .c k => K (k.dec x.i)
  | .si k z => match z with
    | 1 => K (.ro (.ints k x.l) x.l.length 1)
    | z => K (.ro (.ints k x.l) (x.l.length / z) z)
  | .sm ks => match ks with
    | [k] => K (.ro (.mix [k] x.l) x.l.length 1)
    | ks => K (.ro (.mix ks x.l) (x.l.length / ks.length) ks.length)
  | .pt a z b => if x.i = 0 then K .nilp else K (.rp (.nest (ptK a z b) (ptL a b x.l)) 0)
theorem many_ne {z : Nat} (h : z ≠ 1) (x : List Int) : many z x = x.length / z := by
  unfold many
  split
  · exact absurd rfl h
  · rfl
theorem decK_eq (k : NK) (x : NC) (K : EV → α) : decK k x K = K (k.dec x) := by
  cases k with
  | c k => rfl
  | si k z =>
    unfold decK
    simp only [NK.dec, NK.cont, NK.sz]
    split
    · rfl
    · rename_i h
      rw [many_ne (fun e => h e)]
  | sm ks =>
    unfold decK
    simp only [NK.dec, NK.cont, NK.sz]
    split
    · rfl
    · rename_i h
      rw [many_ne (fun e => by
        match ks, e with
        | [k], _ => exact h k rfl)]
  | pt a z b =>
    unfold decK
    simp only [NK.dec]
    split <;> rfl
def cgetK (c : EV) (i : Nat) (K : EV → α) (z : α) : α :=
  match c with
  | .ints k l => optK l[i]? (fun n => K (.int k n)) z
  | .mix ks l => optK l[i]? (fun n => kindK ks i fun k => K (k.dec n)) z
  | .nest ks l => optK l[i]? (fun n => kindNK ks i fun k => decK k n K) z
  | .agg l => optK l[i]? K z
  | _ => z
theorem cgetK_ok {c : EV} {i : Nat} {K : EV → α} {z : α} : Leads (cgetK c i K z) (cget c i) K z := by
  unfold cgetK cget
  split
  · exact .map optK_ok
  · simp only [kindK_eq]; exact .map optK_ok
  · simp only [kindNK_eq, decK_eq]; exact .map optK_ok
  · exact optK_ok
  · exact .z
/-- A record's cells, one by one. -/
def cellsN : List NK → List NC → Nat → (List EV → α) → α → α
  | [], _, _, K, _ => K []
  | k :: r, l, i, K, z => optK l[i]? (fun n => cellsN r l (i + 1) (fun vs => K (k.dec n :: vs)) z) z
theorem cellsN_or (l : List NC) (z : α) : ∀ (ks : List NK) (i : Nat) (K : List EV → α), cellsN ks l i K z = z ∨ cellsN ks l i K z = K (recN ks l i)
  | [], i, K => .inr rfl
  | k :: r, i, K => by
    unfold cellsN recN
    cases h : l[i]? with
    | none => exact .inl rfl
    | some n =>
      have e : l.getD i ⟨0, []⟩ = n := by rw [List.getD_eq_getElem?_getD, h]; rfl
      rw [e]
      exact cellsN_or l z r (i + 1) fun vs => K (k.dec n :: vs)
def recVK (ks : List NK) (l : List NC) (i : Nat) (K : EV → α) (z : α) : α := match intN ks with
  | some k => K (.ints k (((l.drop i).take ks.length).map NC.i))
  | none => match plainN ks with
    | true => cellsN ks l i (fun vs => K (.agg vs)) z
    | false => K (.nest ks ((l.drop i).take ks.length))
theorem recVK_ok {ks : List NK} {l : List NC} {i : Nat} {K : EV → α} {z : α} : Leads (recVK ks l i K z) (some (recV ks l i)) K z := by
  unfold recVK recV
  cases h : intN ks with
  | some k => exact .some
  | none =>
    cases h2 : plainN ks with
    | true =>
      rcases cellsN_or l z ks i (fun vs => K (.agg vs)) with e | e
      · exact .inl e
      · exact .inr ⟨_, rfl, e⟩
    | false => exact .some
def subNK (ks : List NK) (l : List NC) (i n : Nat) (K : EV → α) (z : α) : Nat → Nat → α
  | 0, _ => z
  | q + 1, f => if i % ks.length = f then recVK ((ks.drop f).take n) l i K z else subNK ks l i n K z q (f + 1)
theorem subNK_ok {ks : List NK} {l : List NC} {i n : Nat} {K : EV → α} {z : α} : ∀ (q f : Nat), Leads (subNK ks l i n K z q f) (subN ks l i n q f) K z
  | 0, f => .z
  | q + 1, f => by
    unfold subNK subN
    by_cases h : i % ks.length = f
    · rw [if_pos h, if_pos h]
      exact recVK_ok
    · rw [if_neg h, if_neg h]
      exact subNK_ok q (f + 1)
/-- An element's cells, one by one. -/
def cellsK : List CK → List Int → Nat → (List EV → α) → α → α
  | [], _, _, K, _ => K []
  | k :: r, l, i, K, z => optK l[i]? (fun n => cellsK r l (i + 1) (fun vs => K (k.dec n :: vs)) z) z
theorem cellsK_or (l : List Int) (z : α) : ∀ (ks : List CK) (i : Nat) (K : List EV → α), cellsK ks l i K z = z ∨ cellsK ks l i K z = K (recC ks l i)
  | [], i, K => .inr rfl
  | k :: r, i, K => by
    unfold cellsK recC
    cases h : l[i]? with
    | none => exact .inl rfl
    | some n =>
      have e : l.getD i 0 = n := by rw [List.getD_eq_getElem?_getD, h]; rfl
      rw [e]
      exact cellsK_or l z r (i + 1) fun vs => K (k.dec n :: vs)
def csubK (c : EV) (i n : Nat) (K : EV → α) (z : α) : α :=
  match c with
  | .ints k l => if i + n ≤ l.length then K (.ints k ((l.drop i).take n)) else z
  | .mix ks l => if i + n ≤ l.length then (match ks with
    | [k] => K (.mix [k] ((l.drop i).take n))
    | ks => if n = ks.length then (if i % ks.length = 0 then cellsK ks l i (fun vs => K (.agg vs)) z else z) else z) else z
  | .nest ks l => if i + n ≤ l.length then subNK ks l i n K z (ks.length + 1 - n) 0 else z
  | .agg l => if i + n ≤ l.length then K (mkAgg ((l.drop i).take n)) else z
  | _ => z
theorem csubK_ok {c : EV} {i n : Nat} {K : EV → α} {z : α} : Leads (csubK c i n K z) (csub c i n) K z := by
  unfold csubK csub
  split
  · exact .ite fun h => by simp only [h, if_true]; exact .some
  · refine .ite fun h => ?_
    simp only [h, if_true]
    rename_i ks l
    match ks with
    | [] => exact .ite fun h1 => .ite fun h2 => .of (by simp only; rw [if_pos h1, if_pos h2]; rfl)
    | [k] => exact .some
    | k :: q :: r =>
      refine .ite fun h1 => .ite fun h2 => ?_
      rcases cellsK_or l z (k :: q :: r) i (fun vs => K (.agg vs)) with e | e
      · exact .inl e
      · exact .inr ⟨.agg (recC (k :: q :: r) l i), by simp only; rw [if_pos h1, if_pos h2], e⟩
  · exact .ite fun h => by simp only [h, if_true]; exact subNK_ok _ _
  · exact .ite fun h => by simp only [h, if_true]; exact .some
  · exact .z
def cputK (c : EV) (i : Nat) (v : EV) (K : EV → α) (z : α) : α :=
  match c, v with
  | .ints k l, .int k' n => if k = k' then (if i < l.length then K (.ints k (l.set i n)) else z) else z
  | .ints k l, .ints k' x => if k = k' then (if i + x.length ≤ l.length then K (.ints k (l.take i ++ (x ++ l.drop (i + x.length)))) else z) else z
  | .agg l, .ints k x => if i + x.length ≤ l.length then K (.agg (l.take i ++ (x.map (.int k) ++ l.drop (i + x.length)))) else z
  | .mix ks l, .int k n => kindK ks i fun k' => if k' = .int k then (if i < l.length then K (.mix ks (l.set i n)) else z) else z
  | .mix ks l, .bool b => kindK ks i fun k' => if k' = .bool then (if i < l.length then K (.mix ks (l.set i (cond b 1 0))) else z) else z
  | .nest ks l, .int k n => kindNK ks i fun k' => if k' = .c (.int k) then (if i < l.length then K (.nest ks (l.set i ⟨n, []⟩)) else z) else z
  | .nest ks l, .bool b => kindNK ks i fun k' => if k' = .c .bool then (if i < l.length then K (.nest ks (l.set i ⟨cond b 1 0, []⟩)) else z) else z
  | .nest ks l, .ro (.ints k x) n s => kindNK ks i fun k' => if k' = .si k s then (if i < l.length then (if 0 < s ∧ x.length = n * s then K (.nest ks (l.set i ⟨0, x⟩)) else z) else z) else z
  | .nest _ l, .nest ks x => if i = 0 then (if x.length = l.length then K (.nest ks x) else z) else z
  | .nest _ l, .agg x => if i = 0 then (if x.length = l.length then K (.agg x) else z) else z
  | .agg l, .nest ks x => if i = 0 then (if x.length = l.length then K (.nest ks x) else z) else z
  | c, v => optK (cput c i v) K z
theorem cputK_ok {c v : EV} {i : Nat} {K : EV → α} {z : α} : Leads (cputK c i v K z) (cput c i v) K z := by
  unfold cputK
  split
  · exact .ite fun h1 => .ite fun h2 => by simp only [cput, h1, h2, if_true]; exact .some
  · exact .ite fun h1 => .ite fun h2 => by simp only [cput, h1, h2, if_true]; exact .some
  · exact .ite fun h1 => by simp only [cput, h1, if_true]; exact .some
  · rw [kindK_eq]; exact .ite fun h1 => .ite fun h2 => by simp only [cput, h1, h2, if_true]; exact .some
  · rw [kindK_eq]; exact .ite fun h1 => .ite fun h2 => by simp only [cput, h1, h2, if_true]; exact .some
  · rw [kindNK_eq]; exact .ite fun h1 => .ite fun h2 => by simp only [cput, h1, h2, if_true]; exact .some
  · rw [kindNK_eq]; exact .ite fun h1 => .ite fun h2 => by simp only [cput, h1, h2, if_true]; exact .some
  · rw [kindNK_eq]; exact .ite fun h1 => .ite fun h2 => .ite fun h3 => .of (by simp only [cput]; rw [if_pos h1, if_pos h2, if_pos h3])
  · exact .ite fun h1 => .ite fun h2 => .of (by simp only [cput]; rw [if_pos h1, if_pos h2])
  · exact .ite fun h1 => .ite fun h2 => .of (by simp only [cput]; rw [if_pos h1, if_pos h2])
  · exact .ite fun h1 => .ite fun h2 => .of (by simp only [cput]; rw [if_pos h1, if_pos h2])
  · exact optK_ok
def ccatK (a b : EV) (K : EV → α) (z : α) : α :=
  match a, b with
  | .ints k l, .ints k' x => if k = k' then K (.ints k (l ++ x)) else z
  | .mix ks l, .agg x => match x with
    | [] => K (.mix ks l)
    | e :: x => match ks with
      | [k] => optK (encC [k] (e :: x)) (fun y => K (.mix [k] (l ++ y))) z
      | ks => optK (encC ks (e :: x)) (fun y => if l.length % ks.length = 0 then K (.mix ks (l ++ y)) else z) z
  | .mix ks l, .mix ks' x => if ks = ks' then (match ks with
    | [k] => K (.mix [k] (l ++ x))
    | ks => if l.length % ks.length = 0 then K (.mix ks (l ++ x)) else z) else z
  | .nest ks l, .agg x => match x with
    | [] => K (.nest ks l)
    | _ => z
  | .nest ks l, .nest ks' x => if ks = ks' then (match ks with
    | [k] => K (.nest [k] (l ++ x))
    | ks => if l.length % ks.length = 0 then K (.nest ks (l ++ x)) else z) else z
  | a, b => optK (ccat a b) K z
theorem ccatK_ok {a b : EV} {K : EV → α} {z : α} : Leads (ccatK a b K z) (ccat a b) K z := by
  unfold ccatK
  split
  · exact .ite fun h => by simp only [ccat, h, if_true]; exact .some
  · rename_i ks l x
    split
    · exact .of rfl
    · rename_i e x
      split
      · rename_i k
        simp only [ccat]
        cases encC [k] (e :: x) with
        | none => exact .z
        | some y => exact .of (by simp [Nat.mod_one])
      · simp only [ccat]
        generalize encC ks (e :: x) = o
        cases o with
        | none => exact .z
        | some y => exact .ite fun h => .of (by simp only; rw [if_pos h])
  · rename_i ks l ks' x
    refine .ite fun h => ?_
    subst h
    split
    · exact .of (by simp [ccat, Nat.mod_one])
    · exact .ite fun h => .of (by simp [ccat, h])
  · rename_i ks l x
    split
    · exact .of rfl
    · exact .z
  · rename_i ks l ks' x
    refine .ite fun h => ?_
    subst h
    split
    · exact .of (by simp [ccat, Nat.mod_one])
    · exact .ite fun h => .of (by simp [ccat, h])
  · exact optK_ok
def fillEvK : List (Nat × Nat × EV) → EV → (EV → α) → α → α
  | [], c, K, z => K c
  | (off, n, v) :: r, c, K, z => if clen v = n then cputK c off v (fun c' => fillEvK r c' K z) z else z
theorem fillEvK_ok {K : EV → α} {z : α} : ∀ {l : List (Nat × Nat × EV)} {c : EV}, Leads (fillEvK l c K z) (fillEv c l) K z
  | [], c => .some
  | (off, n, v) :: r, c => by
    unfold fillEvK fillEv
    refine .ite fun h => ?_
    rw [if_pos h]
    exact .bind cputK_ok fun b _ => fillEvK_ok
def idxK (i : EV) (len : Nat) (K : Nat → α) (z : α) : α :=
  match i with
  | .int _ n => if 0 ≤ n ∧ n < len then K n.toNat else z
  | _ => z
theorem idxK_ok {i : EV} {len : Nat} {K : Nat → α} {z : α} : Leads (idxK i len K z) (idxEv i len) K z := by
  unfold idxK idxEv
  split
  · exact .ite fun h => by simp only [h, and_self, if_true]; exact .some
  · exact .z
def boundK (x : Option EV) (dflt top : Nat) (K : Nat → α) (z : α) : α :=
  match x with
  | none => K dflt
  | some (.int _ n) => if 0 ≤ n ∧ n ≤ top then K n.toNat else z
  | some _ => z
theorem boundK_ok {x : Option EV} {dflt top : Nat} {K : Nat → α} {z : α} : Leads (boundK x dflt top K z) (boundEv x dflt top) K z := by
  unfold boundK boundEv
  split
  · exact .some
  · exact .ite fun h => by simp only [h, and_self, if_true]; exact .some
  · exact .z
/-- A place's offset, in the form that is shortest where o is 0 and an element has one cell. -/
def offN (o n sz : Nat) : Nat := match sz with
  | 1 => n + o
  | sz => n * sz + o
theorem offN_eq (o n sz : Nat) : offN o n sz = o + n * sz := by
  unfold offN
  split
  · omega
  · omega
def slFirstK (h : List Row) (sz k : Nat) (x : EV) (K : EV → α) (z : α) : α :=
  match x with
  | .nils => if k = 0 then K (.agg []) else z
  | .slice r o n s => if s = sz then (if k ≤ n then (match h[r]? with | some row => csubK row.c o (k * sz) K z | none => z) else z) else z
  | .ro c n s => if s = sz then (if k ≤ n then csubK c 0 (k * sz) K z else z) else z
  | _ => z
theorem slFirstK_ok {h : List Row} {sz k : Nat} {x : EV} {K : EV → α} {z : α} : Leads (slFirstK h sz k x K z) (slFirst h sz k x) K z := by
  unfold slFirstK slFirst
  cases x with
  | nils => exact .ite fun h => by simp only [h, if_true]; exact .some
  | slice r o n s =>
    refine .ite fun h1 => .ite fun h2 => ?_
    simp only
    rw [if_pos ⟨h1, h2⟩]
    cases h[r]? <;> first
      | exact .z
      | exact csubK_ok
  | ro c n s =>
    refine .ite fun h1 => .ite fun h2 => ?_
    simp only
    rw [if_pos ⟨h1, h2⟩]
    exact csubK_ok
  | _ => exact .z
def slCellsK (h : List Row) (sz : Nat) (x : EV) (K : EV → α) (z : α) : α :=
  match x with
  | .nils => K (.agg [])
  | .slice r o n s => if s = sz then (match h[r]? with | some row => csubK row.c o (n * sz) K z | none => z) else z
  | .ro c n s => if s = sz then csubK c 0 (n * sz) K z else z
  | _ => z
theorem slCellsK_ok {h : List Row} {sz : Nat} {x : EV} {K : EV → α} {z : α} : Leads (slCellsK h sz x K z) (slCells h sz x) K z := by
  unfold slCellsK slCells slFirst
  cases x with
  | nils => exact .of rfl
  | slice r o n s =>
    refine .ite fun h1 => ?_
    simp only [slLen, Nat.le_refl, and_true, h1, if_true]
    cases h[r]? <;> first
      | exact .z
      | exact csubK_ok
  | ro c n s =>
    refine .ite fun h1 => ?_
    simp only [slLen, Nat.le_refl, and_true, h1, if_true]
    exact csubK_ok
  | _ => exact .z

/-! ### Operations -/
abbrev CallK := (α : Type) → FuncId → List EV → List Row → (EV × List Row × List Nat → α) → α → α
def CallKOk (CK : CallK) (C : CallF) : Prop := ∀ (α : Type) (f : FuncId) (args : List EV) (h : List Row) (K : EV × List Row × List Nat → α) (z : α), Leads (CK α f args h K z) (C f args h) K z

def backEff (h : List Row) (ids : List Nat) (x : EV × List Row × List Nat) : Eff :=
  let back := backOf ids x.2.2 h.length
  { v := ren back x.1
    upd := (List.range ids.length).map fun p => (ids.getD p 0, if x.2.2.contains p then ⟨true, .unk⟩ else renRow back (getRow x.2.1 p))
    news := (x.2.2.map fun p => renRow back (getRow x.2.1 p)) ++ (x.2.1.drop ids.length).map (renRow back)
    mvs := x.2.2.map fun p => (ids.getD p 0, h.length + x.2.2.idxOf p) }
def callAtK (CK : CallK) (f : FuncId) (args : List EV) (h : List Row) (K : Eff → α) (z : α) : α :=
  let ids := reach h reachFuel (ptrsL args) []
  if ids.all (fun i => decide (i < h.length) && !fresh h i) = true then
    CK α f (renL (toMini ids) args) (ids.map fun i => renRow (toMini ids) (getRow h i)) (fun x => K (backEff h ids x)) z
  else z
theorem callAtK_ok {CK : CallK} {C : CallF} (hC : CallKOk CK C) {f : FuncId} {args : List EV} {h : List Row} {K : Eff → α} {z : α} : Leads (callAtK CK f args h K z) (callAt C f args h) K z := by
  unfold callAtK callAt
  refine .ite fun hi => ?_
  simp only [hi, if_true]
  rcases hC α f (renL (toMini (reach h reachFuel (ptrsL args) [])) args) ((reach h reachFuel (ptrsL args) []).map fun i => renRow (toMini (reach h reachFuel (ptrsL args) [])) (getRow h i)) (fun x => K (backEff h (reach h reachFuel (ptrsL args) []) x)) z with e | ⟨⟨r, rows', mv⟩, hb, e⟩
  · exact .inl e
  · refine .inr ⟨backEff h (reach h reachFuel (ptrsL args) []) (r, rows', mv), ?_, e⟩
    rw [hb]
    rfl

def bCellK (h : List Row) (k : NK) (v : EV) (K : NC → α) (z : α) : α :=
  match k, v with
  | .c (.int k), .int k' n => if k = k' then K ⟨n, []⟩ else z
  | .c .bool, .bool b => K ⟨cond b 1 0, []⟩
  | .si _ _, .nils => K ⟨0, []⟩
  | .si k s, .slice r o n s' => if s = s' ∧ 0 < s then (match h[r]? with
    | some row => (match row.c with
      | .ints k' l => if k = k' then (if o + n * s ≤ l.length then K ⟨0, (l.drop o).take (n * s)⟩ else z) else z
      | _ => z)
    | none => z) else z
  | .si k s, .ro (.ints k' l) n s' => if k = k' ∧ s = s' ∧ 0 < s then (if n * s ≤ l.length then K ⟨0, l.take (n * s)⟩ else z) else z
  | .pt _ _ _, .nilp => K ⟨0, []⟩
  | .pt a s b, .ptr r o => match h[r]? with
    | some row => (match row.c with
      | .nest ks l => if ks = ptK a s b ∧ o = 0 then (if l.length = a + 1 + b then K ⟨1, ptE a b l⟩ else z) else z
      | _ => z)
    | none => z
  | _, _ => z
theorem bCellK_ok {h : List Row} {k : NK} {v : EV} {K : NC → α} {z : α} : Leads (bCellK h k v K z) (bCell h k v) K z := by
  unfold bCellK bCell
  split
  · exact .ite fun h1 => by simp only [h1, if_true]; exact .some
  · exact .some
  · exact .some
  · rename_i k s r o n s'
    refine .ite fun h1 => ?_
    obtain ⟨rfl, hp⟩ := h1
    simp only [hp, and_self, if_true]
    cases h[r]? with
    | none => exact .z
    | some row =>
      obtain ⟨ow, c⟩ := row
      cases c <;> first | exact .z | exact .ite fun h2 => .ite fun h3 => by subst h2; simp only [h3, if_true]; exact .some
  · refine .ite fun h1 => .ite fun h2 => ?_
    obtain ⟨rfl, rfl, hp⟩ := h1
    simp only [hp, h2, and_self, if_true]
    exact .some
  · exact .some
  · rename_i a s b r o
    cases hr : h[r]? with
    | none => exact .z
    | some row =>
      obtain ⟨ow, c⟩ := row
      cases c <;> first | exact .z | exact .ite fun h1 => .ite fun h2 => .of (by simp only [hr]; rw [if_pos h1, if_pos h2])
  · exact .z
def bCellsK (h : List Row) : List NK → List EV → (List NC → α) → α → α
  | [], [], K, _ => K []
  | k :: ks, v :: l, K, z => bCellK h k v (fun x => bCellsK h ks l (fun r => K (x :: r)) z) z
  | _, _, _, z => z
theorem bCellsK_ok {h : List Row} {z : α} : ∀ {ks : List NK} {l : List EV} {K : List NC → α}, Leads (bCellsK h ks l K z) (bCells h ks l) K z
  | [], [], K => .some
  | k :: ks, v :: l, K => by
    unfold bCellsK bCells
    exact .bind bCellK_ok fun b _ => .map bCellsK_ok
  | [], v :: l, K => .z
  | k :: ks, [], K => .z
def frzCK (h : List Row) (T : List Nat) (ks : List NK) (c : EV) (K : EV × List Nat → α) (z : α) : α :=
  match c with
  | .agg l => if (nodupB (ptrsL l) && (ptrsL l).all fun r => ownAgg h r && T.contains r) = true then bCellsK h ks l (fun x => K (.nest ks x, ptrsL l)) z else z
  | c => K (c, [])
theorem frzCK_ok {h : List Row} {T : List Nat} {ks : List NK} {c : EV} {K : EV × List Nat → α} {z : α} : Leads (frzCK h T ks c K z) (frzC h T ks c) K z := by
  cases c
  case agg l =>
    show Leads (if _ then _ else _) (if _ then _ else _) K z
    exact .ite fun h1 => by rw [if_pos h1]; exact .map bCellsK_ok
  all_goals exact .some
def bArgK (h : List Row) (b : BK) (v : EV) (K : EV → α) (z : α) : α :=
  match b, v with
  | .keep, v => K v
  | .nest ks, .nest ks' l => if ks = ks' then K (.nest ks l) else z
  | .nest ks, .agg l => bCellsK h ks l (fun x => K (.nest ks x)) z
  | .sl k s, v => bCellK h (.si k s) v (fun x => K (.ro (.ints k x.l) (many s x.l) s)) z
  | _, _ => z
theorem bArgK_ok {h : List Row} {b : BK} {v : EV} {K : EV → α} {z : α} : Leads (bArgK h b v K z) (bArg h b v) K z := by
  unfold bArgK bArg
  split
  · exact .some
  · exact .ite fun h1 => .of (by subst h1; simp only [if_true])
  · exact .map bCellsK_ok
  · exact .map bCellK_ok
  · exact .z
def bArgsK (h : List Row) : List BK → List EV → (List EV → α) → α → α
  | [], [], K, _ => K []
  | b :: bs, v :: l, K, z => bArgK h b v (fun x => bArgsK h bs l (fun r => K (x :: r)) z) z
  | _, _, _, z => z
theorem bArgsK_ok {h : List Row} {z : α} : ∀ {bs : List BK} {l : List EV} {K : List EV → α}, Leads (bArgsK h bs l K z) (bArgs h bs l) K z
  | [], [], K => .some
  | b :: bs, v :: l, K => by
    unfold bArgsK bArgs
    exact .bind bArgK_ok fun b _ => .map bArgsK_ok
  | [], v :: l, K => .z
  | b :: bs, [], K => .z
def callBorK (CK : CallK) (f : FuncId) (bs : List BK) (args : List EV) (h : List Row) (K : Eff → α) (z : α) : α :=
  bArgsK h bs args (fun as => match ptrsL as with
    | [] => CK α f as [] (fun x => match x.2.2 with
      | [] => if (noF x.1 && x.2.1.all fun row => noF row.c) = true then K { v := ren (shiftN h.length) x.1, news := x.2.1.map (renRow (shiftN h.length)) } else z
      | _ => z) z
    | _ => z) z
theorem callBorK_ok {CK : CallK} {C : CallF} (hC : CallKOk CK C) {f : FuncId} {bs : List BK} {args : List EV} {h : List Row} {K : Eff → α} {z : α} : Leads (callBorK CK f bs args h K z) (callBor C f bs args h) K z := by
  unfold callBorK callBor
  rcases bArgsK_ok (h := h) (bs := bs) (l := args) (K := fun as => match ptrsL as with
    | [] => CK α f as [] (fun x => match x.2.2 with
      | [] => if (noF x.1 && x.2.1.all fun row => noF row.c) = true then K { v := ren (shiftN h.length) x.1, news := x.2.1.map (renRow (shiftN h.length)) } else z
      | _ => z) z
    | _ => z) (z := z) with e | ⟨as, ha, e⟩
  · exact .inl e
  · rw [e, ha]
    cases hp : ptrsL as with
    | nil =>
      rcases hC α f as [] (fun x => match x.2.2 with
        | [] => if (noF x.1 && x.2.1.all fun row => noF row.c) = true then K { v := ren (shiftN h.length) x.1, news := x.2.1.map (renRow (shiftN h.length)) } else z
        | _ => z) z with e2 | ⟨⟨r, rows', mv⟩, hb, e2⟩
      · exact .inl (by simpa only [hp] using e2)
      · simp only [hp, hb]
        rw [e2]
        cases mv with
        | nil => exact .ite fun h1 => by simp only [h1, if_true]; exact .some
        | cons _ _ => exact .z
    | cons _ _ => simp only [hp]; exact .z

def evOpK (CK : CallK) (at_ : Nat) (o : SO) (σ : Nat → EV) (h : List Row) (K : Eff → α) (z : α) : α :=
  match o with
  | .mv x => K { v := x.ev σ }
  | .pick c a b => match c.ev σ with
    | .bool t => cond t (K { v := a.ev σ }) (K { v := b.ev σ })
    | _ => z
  | .bin op ty x y => binK op ty (x.ev σ) (y.ev σ) (fun v => K { v }) z
  | .un op x => unK op (x.ev σ) (fun v => K { v }) z
  | .conv k x => match x.ev σ with
    | .int _ n => K { v := .int k (k.wrap n) }
    | _ => z
  | .build z0 ps => fillEvK (partsEv σ ps) z0 (fun v => K { v }) z
  | .field off n x => match n with
    | none => if isAgg (x.ev σ) = true then cgetK (x.ev σ) off (fun v => K { v }) z else z
    | some n => csubK (x.ev σ) off n (fun v => K { v }) z
  | .fieldAddr off x => match x.ev σ with
    | .ptr r o => K { v := .ptr r (o + off) }
    | .rp c o => K { v := .rp c (o + off) }
    | _ => z
  | .idxA len sz x i => match x.ev σ with
    | .ptr r o => idxK (i.ev σ) len (fun n => K { v := .ptr r (offN o n sz) }) z
    | .rp c o => idxK (i.ev σ) len (fun n => K { v := .rp c (offN o n sz) }) z
    | _ => z
  | .idxS sz x i => match x.ev σ with
    | .slice r o len s => if s = sz then idxK (i.ev σ) len (fun n => K { v := .ptr r (offN o n sz) }) z else z
    | .ro c len s => if s = sz then idxK (i.ev σ) len (fun n => K { v := .rp c (offN 0 n sz) }) z else z
    | _ => z
  | .idxV len sz ag x i => idxK (i.ev σ) len (fun n => cond ag (csubK (x.ev σ) (offN 0 n sz) sz (fun v => K { v }) z) (cgetK (x.ev σ) (offN 0 n sz) (fun v => K { v }) z)) z
  | .idxStr x i => match x.ev σ with
    | .str s => idxK (i.ev σ) s.length (fun n => optK s[n]? (fun b => K { v := .int .u8 b.toNat }) z) z
    | _ => z
  | .extract x i => match x.ev σ with
    | .tup l => optK l[i]? (fun v => K { v }) z
    | _ => z
  | .nilck x => match x.ev σ with
    | .ptr r o => K { v := .ptr r o }
    | .rp c o => K { v := .rp c o }
    | _ => z
  | .slStr x lo hi => match x.ev σ with
    | .str s => boundK (hi.map (·.ev σ)) s.length s.length (fun b => boundK (lo.map (·.ev σ)) 0 b (fun a => K { v := .str ((s.drop a).take (b - a)) }) z) z
    | _ => z
  | .slS sz x lo hi => match x.ev σ with
    | .slice r o len s => if s = sz then boundK (hi.map (·.ev σ)) len len (fun b => boundK (lo.map (·.ev σ)) 0 b (fun a => K { v := .slice r (offN o a sz) (b - a) sz }) z) z else z
    | .nils => boundK (hi.map (·.ev σ)) 0 0 (fun b => boundK (lo.map (·.ev σ)) 0 b (fun _ => K { v := .nils }) z) z
    | .ro c len s => if s = sz then boundK (hi.map (·.ev σ)) len len (fun b => boundK (lo.map (·.ev σ)) 0 b (fun a => if a = 0 then K { v := .ro (roTake c (b * s)) b s } else z) z) z else z
    | _ => z
  | .slA n sz x lo hi => match x.ev σ with
    | .ptr r o => boundK (hi.map (·.ev σ)) n n (fun b => boundK (lo.map (·.ev σ)) 0 b (fun a =>
        match h[r]? with
        | some row => if isAgg row.c = true then (if o + n * sz ≤ clen row.c then K { v := .slice r (offN o a sz) (b - a) sz } else z) else z
        | none => z) z) z
    | _ => z
  | .len k x => match k, x.ev σ with
    | .const n, _ => K { v := .int .i64 n }
    | .str, .str s => K { v := .int .i64 s.length }
    | .slice, .slice _ _ n _ => K { v := .int .i64 n }
    | .slice, .nils => K { v := .int .i64 0 }
    | .slice, .ro _ n _ => K { v := .int .i64 n }
    | _, _ => z
  | .mx m l => match l.map (·.ev σ) with
    | [] => z
    | a :: r => optK (mxL m a r) (fun v => K { v }) z
  | .callP f args =>
    match ptrsL (args.map (·.ev σ)) with
    | [] => CK α f (args.map (·.ev σ)) [] (fun x => match x with
      | (v, [], []) => K { v }
      | _ => z) z
    | _ => z
  | .mkfn f a b => K { v := .fn f (a.map (·.ev σ)) (b.map (·.ev σ)) }
  | .alloc z0 => if fresh h at_ = true then (if isAgg z0 = true then K { v := .ptr at_ 0, upd := [(at_, ⟨true, z0⟩)] } else z) else z
  | .box x => if fresh h at_ = true then (if (isAgg (x.ev σ) || isScalar (x.ev σ)) = true then K { v := .ptr at_ 0, upd := [(at_, ⟨true, toRow (x.ev σ)⟩)] } else z) else z
  | .bslice sz len z0 ps => if fresh h at_ = true then fillEvK (partsEv σ ps) (crep len z0) (fun c => K { v := .slice at_ 0 len sz, upd := [(at_, ⟨true, c⟩)] }) z else z
  | .bsliceF ks sz len z0 ps => if fresh h at_ = true then fillEvK (partsEv σ ps) (crep len z0) (fun c => frzCK h (partPtrs (partsEv σ ps)) ks c (fun x => K (frzEff h ks at_ len sz x)) z) z else z
  | .mkslice sz bytes z0 n c => match n.ev σ, c.ev σ with
    | .int .i64 a, .int .i64 b => if fresh h at_ = true then (if a = b then (if 0 ≤ a then (if bytes * a ≤ 140737488355328 then (if a ≤ 9223372036854775807 then K { v := .slice at_ 0 a.toNat sz, upd := [(at_, ⟨true, crep a.toNat z0⟩)] } else z) else z) else z) else z) else z
    | _, _ => z
  | .load n a => match a.ev σ with
    | .ptr r o => match h[r]? with
      | some row => match n with
        | none => cgetK row.c o (fun v => K { v }) z
        | some n => csubK row.c o n (fun v => K { v }) z
      | none => z
    | .rp c o => match n with
      | none => cgetK c o (fun v => K { v }) z
      | some n => csubK c o n (fun v => K { v }) z
    | _ => z
  | .store n a x => match a.ev σ with
    | .ptr r o => match h[r]? with
      | some row => if row.own = true then (if clen (x.ev σ) = n then cputK row.c o (x.ev σ) (fun c => K { v := .unk, upd := [(r, ⟨true, c⟩)] }) z else z) else z
      | none => z
    | _ => z
  | .app sz bytes s x =>
    match s.ev σ with
    | .nils => if slLen (x.ev σ) = 0 then slCellsK h sz (x.ev σ) (fun _ => K { v := .nils }) z
        else if fresh h at_ = true then (if slLen (x.ev σ) * bytes ≤ 70368744177664 then
          slCellsK h sz (x.ev σ) (fun c => K { v := .slice at_ 0 (slLen (x.ev σ)) sz, upd := [(at_, ⟨true, mixUp sz c⟩)] }) z
        else z) else z
    | .slice r o m s => if fresh h at_ = true then (if s = sz then (if o = 0 then (if (m + slLen (x.ev σ)) * bytes ≤ 70368744177664 then
        match h[r]? with
        | some row => if row.own = true then (if clen row.c = m * sz then
            slCellsK h sz (x.ev σ) (fun c0 => ccatK row.c c0 (fun c => K { v := .slice at_ 0 (m + slLen (x.ev σ)) sz, upd := [(r, ⟨true, .unk⟩), (at_, ⟨true, c⟩)], mvs := [(r, at_)] }) z) z
          else z) else z
        | none => z
      else z) else z) else z) else z
    | _ => z
  | .copy sz d s =>
    match d.ev σ with
    | .slice r o m s' => if s' = sz then (if isNils (s.ev σ) = true then K { v := .int .i64 0 } else
        match h[r]? with
        | some row => if row.own = true then slFirstK h sz (min (slLen (s.ev σ)) m) (s.ev σ) (fun x => cputK row.c o x (fun c => K { v := .int .i64 (min (slLen (s.ev σ)) m : Nat), upd := [(r, ⟨true, c⟩)] }) z) z else z
        | none => z)
      else z
    | .nils => match s.ev σ with
      | .nils => K { v := .int .i64 0 }
      | .slice _ _ _ _ => K { v := .int .i64 0 }
      | .ro _ _ _ => K { v := .int .i64 0 }
      | _ => z
    | _ => z
  | .toStr x => match x.ev σ with
    | .nils => K { v := .str [] }
    | .slice r o n s => match h[r]? with
      | some row => csubK row.c o n (fun c => optK (bytesOf c) (fun s => K { v := .str s }) z) z
      | none => z
    | .ro c n s => csubK c 0 n (fun c => optK (bytesOf c) (fun s => K { v := .str s }) z) z
    | _ => z
  | .call f args => callAtK CK f (args.map (·.ev σ)) h K z
  | .callB f bs args => callBorK CK f bs (args.map (·.ev σ)) h K z
  | .callv g args => match g.ev σ with
    | .fn f a b => callAtK CK f (a ++ args.map (·.ev σ) ++ b) h K z
    | _ => z

theorem evOpK_ok {CK : CallK} {C : CallF} (hC : CallKOk CK C) {at_ : Nat} {o : SO} {σ : Nat → EV} {h : List Row} {K : Eff → α} {z : α} : Leads (evOpK CK at_ o σ h K z) (evOp C at_ o σ h) K z := by
  cases o with
  | mv x => exact .some
  | pick c a b =>
    simp only [evOpK, evOp]
    generalize c.ev σ = v
    cases v <;> try exact .z
    rename_i t
    cases t <;> exact .some
  | bin op ty x y => exact .map binK_ok
  | un op x => simp only [evOpK, evOp]; exact .map unK_ok
  | conv k x =>
    simp only [evOpK, evOp]
    generalize x.ev σ = v
    cases v <;> first | exact .z | exact .some
  | build z0 ps => exact .map fillEvK_ok
  | field off n x =>
    simp only [evOpK, evOp]
    cases n with
    | none => exact .ite fun h => by simp only [h, if_true]; exact .map cgetK_ok
    | some n => exact .map csubK_ok
  | fieldAddr off x =>
    simp only [evOpK, evOp]
    generalize x.ev σ = v
    cases v <;> first | exact .z | exact .some
  | idxA len sz x i =>
    simp only [evOpK, evOp, offN_eq]
    generalize x.ev σ = v
    cases v <;> first | exact .z | exact .map idxK_ok
  | idxS sz x i =>
    simp only [evOpK, evOp, offN_eq, Nat.zero_add]
    generalize x.ev σ = v
    cases v <;> first | exact .z | exact .ite fun h => by simp only [h, if_true]; exact .map idxK_ok
  | idxV len sz ag x i =>
    simp only [evOpK, evOp, offN_eq, Nat.zero_add]
    refine .bind idxK_ok fun n _ => ?_
    cases ag
    · simp only [cond_false, Bool.false_eq_true, if_false]; exact .map cgetK_ok
    · simp only [cond_true, if_true]; exact .map csubK_ok
  | idxStr x i =>
    simp only [evOpK, evOp]
    generalize x.ev σ = v
    cases v <;> first | exact .z | exact .bind idxK_ok fun n _ => .map optK_ok
  | extract x i =>
    simp only [evOpK, evOp]
    generalize x.ev σ = v
    cases v <;> first | exact .z | exact .map optK_ok
  | nilck x =>
    simp only [evOpK, evOp]
    generalize x.ev σ = v
    cases v <;> first | exact .z | exact .some
  | slStr x lo hi =>
    simp only [evOpK, evOp]
    generalize x.ev σ = v
    cases v <;> first | exact .z | exact .bind boundK_ok fun b _ => .map boundK_ok
  | slS sz x lo hi =>
    simp only [evOpK, evOp, offN_eq]
    generalize x.ev σ = v
    cases v <;> first
      | exact .z
      | exact .bind boundK_ok fun b _ => .map boundK_ok
      | exact .ite fun h => by simp only [h, if_true]; exact .bind boundK_ok fun b _ => .map boundK_ok
      | exact .ite fun h => by simp only [h, if_true]; exact .bind boundK_ok fun b _ => .bind boundK_ok fun a _ => .ite fun h0 => by rw [if_pos h0]; exact .some
  | slA n sz x lo hi =>
    simp only [evOpK, evOp, offN_eq]
    generalize x.ev σ = v
    cases v <;> try exact .z
    rename_i r o
    refine .bind boundK_ok fun b _ => .bind boundK_ok fun a _ => ?_
    cases h[r]? <;> try exact .z
    exact .ite fun h1 => .ite fun h2 => .of (by simp [h1, h2])
  | len k x =>
    simp only [evOpK, evOp]
    generalize x.ev σ = v
    cases k <;> cases v <;> first | exact .z | exact .some
  | mx m l =>
    simp only [evOpK, evOp]
    generalize l.map (·.ev σ) = v
    cases v <;> first | exact .z | exact .map optK_ok
  | callP f args =>
    simp only [evOpK, evOp]
    generalize args.map (·.ev σ) = as
    cases ptrsL as <;> try exact .z
    simp only
    rcases hC α f as [] (fun x => match x with
      | (v, [], []) => K { v }
      | _ => z) z with e | ⟨⟨r, rows', mv⟩, hb, e⟩
    · exact .inl e
    · rw [e, hb]
      cases rows' with
      | nil => cases mv with
        | nil => exact .some
        | cons _ _ => exact .z
      | cons _ _ => exact .z
  | mkfn f a b => exact .some
  | alloc z0 =>
    simp only [evOpK, evOp]
    exact .ite fun h1 => .ite fun h2 => .of (by simp [h1, h2])
  | box x =>
    simp only [evOpK, evOp]
    exact .ite fun h1 => .ite fun h2 => .of (by rw [if_pos]; rw [h1, h2]; rfl)
  | bslice sz len z0 ps =>
    simp only [evOpK, evOp]
    exact .ite fun h1 => by rw [if_pos h1]; exact .map fillEvK_ok
  | bsliceF ks sz len z0 ps =>
    simp only [evOpK, evOp]
    exact .ite fun h1 => by rw [if_pos h1]; exact .bind fillEvK_ok fun c _ => .map frzCK_ok
  | mkslice sz bytes z0 n c =>
    simp only [evOpK, evOp]
    generalize n.ev σ = v
    generalize c.ev σ = u
    cases v <;> try exact .z
    rename_i k a
    cases k <;> try exact .z
    cases u <;> try exact .z
    rename_i k b
    cases k <;> try exact .z
    exact .ite fun h1 => .ite fun h2 => .ite fun h3 => .ite fun h4 => .ite fun h5 => .of (if_pos ⟨h1, h2, h3, h4, h5⟩)
  | load n a =>
    simp only [evOpK, evOp]
    generalize a.ev σ = v
    cases v <;> try exact .z
    · rename_i r o
      simp only
      cases h[r]? <;> try exact .z
      cases n with
      | none => exact .map cgetK_ok
      | some n => exact .map csubK_ok
    · cases n with
      | none => exact .map cgetK_ok
      | some n => exact .map csubK_ok
  | store n a x =>
    simp only [evOpK, evOp]
    generalize a.ev σ = v
    cases v <;> try exact .z
    rename_i r o
    simp only
    cases h[r]? <;> try exact .z
    refine .ite fun h1 => .ite fun h2 => ?_
    simp only [h1, h2, beq_self_eq_true, Bool.and_self, if_true]
    exact .map cputK_ok
  | app sz bytes s x =>
    simp only [evOpK, evOp]
    generalize s.ev σ = v
    generalize x.ev σ = u
    cases v <;> try exact .z
    · simp only
      by_cases h0 : slLen u = 0
      · rw [if_pos h0, if_pos h0]
        exact .map slCellsK_ok
      · rw [if_neg h0, if_neg h0]
        refine .ite fun h1 => .ite fun h2 => ?_
        rw [if_pos ⟨h1, h2⟩]
        exact .map slCellsK_ok
    · rename_i r o m s
      simp only
      refine .ite fun h1 => .ite fun h2 => .ite fun h3 => .ite fun h4 => ?_
      rw [if_pos ⟨h1, h2, h3, h4⟩]
      cases h[r]? <;> try exact .z
      refine .ite fun h5 => .ite fun h6 => ?_
      simp only [h5, h6, beq_self_eq_true, Bool.and_self, if_true]
      exact .map (.bind slCellsK_ok fun b _ => ccatK_ok)
  | copy sz d s =>
    simp only [evOpK, evOp]
    generalize d.ev σ = v
    generalize s.ev σ = u
    cases v <;> try exact .z
    · cases u <;> first | exact .z | exact .some
    · rename_i r o m s'
      refine .ite fun h1 => ?_
      simp only [h1, if_true]
      by_cases hn : isNils u = true
      · rw [if_pos hn, if_pos hn]; exact .some
      · rw [if_neg hn, if_neg hn]
        cases h[r]? <;> try exact .z
        exact .ite fun h2 => by simp only [h2, if_true]; exact .bind slFirstK_ok fun b _ => .map cputK_ok
  | toStr x =>
    simp only [evOpK, evOp]
    generalize x.ev σ = v
    cases v <;> try exact .z
    · exact .some
    · rename_i r o n s
      simp only
      cases h[r]? <;> try exact .z
      exact .bind csubK_ok fun b _ => .map optK_ok
    · exact .bind csubK_ok fun b _ => .map optK_ok
  | call f args => exact callAtK_ok hC
  | callB f bs args => exact callBorK_ok hC
  | callv g args =>
    simp only [evOpK, evOp]
    generalize g.ev σ = v
    cases v <;> first | exact .z | exact callAtK_ok hC
end
end Go.Sx
