/-
  Shapes of values, rows and frames, with leaves that are not known; loops, pieces and calls as functions of leaves. Conditions: none.
-/
import Derived.Test.YthofmhnbncopjaaSxU
namespace Go.Sx
open Go
set_option linter.unusedVariables false

inductive Leaf where
  | i (n : Int)
  | b (b : Bool)
  | n (n : Nat)
  | l (l : List Int)
  | s (s : List UInt8)
  | x (l : List NC)

section
variable {α : Type}
def asI (ls : List Leaf) (k : Int → List Leaf → α) (z : α) : α := match ls with
  | .i n :: r => k n r
  | _ => z
def asB (ls : List Leaf) (k : Bool → List Leaf → α) (z : α) : α := match ls with
  | .b n :: r => k n r
  | _ => z
def asN (ls : List Leaf) (k : Nat → List Leaf → α) (z : α) : α := match ls with
  | .n n :: r => k n r
  | _ => z
def asL (ls : List Leaf) (k : List Int → List Leaf → α) (z : α) : α := match ls with
  | .l n :: r => k n r
  | _ => z
def asS (ls : List Leaf) (k : List UInt8 → List Leaf → α) (z : α) : α := match ls with
  | .s n :: r => k n r
  | _ => z
def asX (ls : List Leaf) (k : List NC → List Leaf → α) (z : α) : α := match ls with
  | .x n :: r => k n r
  | _ => z
def asE (ls : List Leaf) (k : α) (z : α) : α := match ls with
  | [] => k
  | _ => z
theorem asI_i (n : Int) (r : List Leaf) (k : Int → List Leaf → α) (z : α) : asI (.i n :: r) k z = k n r := rfl
theorem asB_b (n : Bool) (r : List Leaf) (k : Bool → List Leaf → α) (z : α) : asB (.b n :: r) k z = k n r := rfl
theorem asN_n (n : Nat) (r : List Leaf) (k : Nat → List Leaf → α) (z : α) : asN (.n n :: r) k z = k n r := rfl
theorem asL_l (n : List Int) (r : List Leaf) (k : List Int → List Leaf → α) (z : α) : asL (.l n :: r) k z = k n r := rfl
theorem asS_s (n : List UInt8) (r : List Leaf) (k : List UInt8 → List Leaf → α) (z : α) : asS (.s n :: r) k z = k n r := rfl
theorem asX_x (n : List NC) (r : List Leaf) (k : List NC → List Leaf → α) (z : α) : asX (.x n :: r) k z = k n r := rfl
theorem asE_nil (k : α) (z : α) : asE [] k z = k := rfl

inductive NP where
  | c (n : Nat)
  | h
inductive Pat where
  | unk
  | bool
  | cbool (b : Bool)
  | int (k : IntKind)
  | cint (k : IntKind) (n : Int)
  | str
  | nilp
  | ptr (r : Nat) (o : NP)
  | nils
  | slice (r : Nat) (o n : NP) (z : Nat)
  | ints (k : IntKind)
  | mix (ks : List CK)
  | nest (ks : List NK)
  | ro (c : Pat) (n : NP) (z : Nat)
  | rp (c : Pat) (o : NP)
  | intsE (k : IntKind) (n : Nat)
  | agg (l : List Pat)
  | tup (l : List Pat)
  | nilf
  | fn (f : FuncId) (a b : List Pat)

def unifyN (p : NP) (n : Nat) : Option (List Leaf) := match p with
  | .c m => if m = n then some [] else none
  | .h => some [.n n]
def unifyE : Nat → List Int → Option (List Leaf)
  | 0, [] => some []
  | n + 1, x :: l => (unifyE n l).map (.i x :: ·)
  | _, _ => none
mutual
def unify : Pat → EV → Option (List Leaf)
  | .unk, v => match v with | .unk => some [] | _ => none
  | .bool, v => match v with | .bool b => some [.b b] | _ => none
  | .cbool c, v => match v with | .bool b => if c = b then some [] else none | _ => none
  | .int k, v => match v with | .int k' n => if k = k' then some [.i n] else none | _ => none
  | .cint k m, v => match v with | .int k' n => if k = k' then (if m = n then some [] else none) else none | _ => none
  | .str, v => match v with | .str s => some [.s s] | _ => none
  | .nilp, v => match v with | .nilp => some [] | _ => none
  | .ptr r o, v => match v with | .ptr r' o' => if r = r' then unifyN o o' else none | _ => none
  | .nils, v => match v with | .nils => some [] | _ => none
  | .slice r o n z, v => match v with | .slice r' o' n' z' => if r = r' then (if z = z' then (unifyN o o').bind fun a => (unifyN n n').map (a ++ ·) else none) else none | _ => none
  | .ints k, v => match v with | .ints k' l => if k = k' then some [.l l] else none | _ => none
  | .mix ks, v => match v with | .mix ks' l => if ks = ks' then some [.l l] else none | _ => none
  | .nest ks, v => match v with | .nest ks' l => if ks = ks' then some [.x l] else none | _ => none
  | .ro c n z, v => match v with | .ro c' n' z' => if z = z' then (unifyN n n').bind fun a => (unify c c').map (a ++ ·) else none | _ => none
  | .rp c o, v => match v with | .rp c' o' => (unifyN o o').bind fun a => (unify c c').map (a ++ ·) | _ => none
  | .intsE k n, v => match v with | .ints k' l => if k = k' then unifyE n l else none | _ => none
  | .agg p, v => match v with | .agg l => unifyL p l | _ => none
  | .tup p, v => match v with | .tup l => unifyL p l | _ => none
  | .nilf, v => match v with | .nilf => some [] | _ => none
  | .fn f a b, v => match v with | .fn f' a' b' => if f = f' then (unifyL a a').bind fun x => (unifyL b b').map (x ++ ·) else none | _ => none
def unifyL : List Pat → List EV → Option (List Leaf)
  | [], l => match l with | [] => some [] | _ => none
  | p :: r, l => match l with | v :: l => (unify p v).bind fun a => (unifyL r l).map (a ++ ·) | [] => none
end

def fillN (p : NP) (ls : List Leaf) (K : Nat → List Leaf → α) (z : α) : α := match p with
  | .c m => K m ls
  | .h => asN ls K z
def fillE : Nat → List Leaf → (List Int → List Leaf → α) → α → α
  | 0, ls, K, z => K [] ls
  | n + 1, ls, K, z => asI ls (fun x r => fillE n r (fun l r => K (x :: l) r) z) z
mutual
def fillK : Pat → List Leaf → (EV → List Leaf → α) → α → α
  | .unk, ls, K, z => K .unk ls
  | .bool, ls, K, z => asB ls (fun b r => K (.bool b) r) z
  | .cbool c, ls, K, z => K (.bool c) ls
  | .int k, ls, K, z => asI ls (fun n r => K (.int k n) r) z
  | .cint k m, ls, K, z => K (.int k m) ls
  | .str, ls, K, z => asS ls (fun n r => K (.str n) r) z
  | .nilp, ls, K, z => K .nilp ls
  | .ptr r o, ls, K, z => fillN o ls (fun o ls => K (.ptr r o) ls) z
  | .nils, ls, K, z => K .nils ls
  | .slice r o n s, ls, K, z => fillN o ls (fun o ls => fillN n ls (fun n ls => K (.slice r o n s) ls) z) z
  | .ints k, ls, K, z => asL ls (fun l r => K (.ints k l) r) z
  | .mix ks, ls, K, z => asL ls (fun l r => K (.mix ks l) r) z
  | .nest ks, ls, K, z => asX ls (fun l r => K (.nest ks l) r) z
  | .ro c n s, ls, K, z => fillN n ls (fun n ls => fillK c ls (fun c ls => K (.ro c n s) ls) z) z
  | .rp c o, ls, K, z => fillN o ls (fun o ls => fillK c ls (fun c ls => K (.rp c o) ls) z) z
  | .intsE k n, ls, K, z => fillE n ls (fun l r => K (.ints k l) r) z
  | .agg p, ls, K, z => fillL p ls (fun l r => K (.agg l) r) z
  | .tup p, ls, K, z => fillL p ls (fun l r => K (.tup l) r) z
  | .nilf, ls, K, z => K .nilf ls
  | .fn f a b, ls, K, z => fillL a ls (fun a ls => fillL b ls (fun b ls => K (.fn f a b) ls) z) z
def fillL : List Pat → List Leaf → (List EV → List Leaf → α) → α → α
  | [], ls, K, z => K [] ls
  | p :: r, ls, K, z => fillK p ls (fun v ls => fillL r ls (fun l ls => K (v :: l) ls) z) z
end

theorem bind_map_some {a b : Option (List Leaf)} {ls : List Leaf} (h : (a.bind fun x => b.map (x ++ ·)) = some ls) : ∃ x y, a = some x ∧ b = some y ∧ ls = x ++ y := by
  cases a with
  | none => cases h
  | some x => cases b with
    | none => cases h
    | some y => exact ⟨x, y, rfl, rfl, by simpa using h.symm⟩
theorem fillN_of {p : NP} {n : Nat} {ls : List Leaf} (h : unifyN p n = some ls) (r : List Leaf) (K : Nat → List Leaf → α) (z : α) : fillN p (ls ++ r) K z = K n r := by
  cases p with
  | c m =>
    simp only [unifyN] at h
    split at h
    · rename_i e
      subst e
      cases h
      rfl
    · cases h
  | h => cases h; rfl
theorem fillE_of : ∀ {n : Nat} {l : List Int} {ls : List Leaf}, unifyE n l = some ls → ∀ (r : List Leaf) (K : List Int → List Leaf → α) (z : α), fillE n (ls ++ r) K z = K l r
  | 0, [], ls, h, r, K, z => by cases h; rfl
  | n + 1, x :: l, ls, h, r, K, z => by
    simp only [unifyE] at h
    cases e : unifyE n l with
    | none => rw [e] at h; cases h
    | some y =>
      rw [e] at h
      cases h
      exact fillE_of e r (fun l r => K (x :: l) r) z
  | 0, _ :: _, ls, h, r, K, z => by cases h
  | _ + 1, [], ls, h, r, K, z => by cases h
mutual
theorem fillK_of : ∀ {p : Pat} {v : EV} {ls : List Leaf}, unify p v = some ls → ∀ (r : List Leaf) (K : EV → List Leaf → α) (z : α), fillK p (ls ++ r) K z = K v r
  | .unk, v, ls, h, r, K, z => by cases v <;> simp only [unify] at h <;> cases h; rfl
  | .bool, v, ls, h, r, K, z => by cases v <;> simp only [unify] at h <;> cases h; rfl
  | .cbool c, v, ls, h, r, K, z => by
    cases v <;> simp only [unify] at h <;> try cases h
    split at h
    · rename_i e; subst e; cases h; rfl
    · cases h
  | .int k, v, ls, h, r, K, z => by
    cases v <;> simp only [unify] at h <;> try cases h
    split at h
    · rename_i e; subst e; cases h; rfl
    · cases h
  | .cint k m, v, ls, h, r, K, z => by
    cases v <;> simp only [unify] at h <;> try cases h
    split at h
    · rename_i e; subst e
      split at h
      · rename_i e; subst e; cases h; rfl
      · cases h
    · cases h
  | .str, v, ls, h, r, K, z => by cases v <;> simp only [unify] at h <;> cases h; rfl
  | .nilp, v, ls, h, r, K, z => by cases v <;> simp only [unify] at h <;> cases h; rfl
  | .ptr i o, v, ls, h, r, K, z => by
    cases v <;> simp only [unify] at h <;> try cases h
    split at h
    · rename_i e; subst e; exact fillN_of h r _ z
    · cases h
  | .nils, v, ls, h, r, K, z => by cases v <;> simp only [unify] at h <;> cases h; rfl
  | .slice i o n s, v, ls, h, r, K, z => by
    cases v <;> simp only [unify] at h <;> try cases h
    split at h
    · rename_i e; subst e
      split at h
      · rename_i e; subst e
        obtain ⟨x, y, h1, h2, rfl⟩ := bind_map_some h
        simp only [fillK]
        rw [List.append_assoc, fillN_of h1, fillN_of h2]
      · cases h
    · cases h
  | .ints k, v, ls, h, r, K, z => by
    cases v <;> simp only [unify] at h <;> try cases h
    split at h
    · rename_i e; subst e; cases h; rfl
    · cases h
  | .mix ks, v, ls, h, r, K, z => by
    cases v <;> simp only [unify] at h <;> try cases h
    split at h
    · rename_i e; subst e; cases h; rfl
    · cases h
  | .nest ks, v, ls, h, r, K, z => by
    cases v <;> simp only [unify] at h <;> try cases h
    split at h
    · rename_i e; subst e; cases h; rfl
    · cases h
  | .ro c n s, v, ls, h, r, K, z => by
    cases v <;> simp only [unify] at h <;> try cases h
    split at h
    · rename_i e; subst e
      obtain ⟨x, y, h1, h2, rfl⟩ := bind_map_some h
      simp only [fillK]
      rw [List.append_assoc, fillN_of h1, fillK_of h2]
    · cases h
  | .rp c o, v, ls, h, r, K, z => by
    cases v <;> simp only [unify] at h <;> try cases h
    obtain ⟨x, y, h1, h2, rfl⟩ := bind_map_some h
    simp only [fillK]
    rw [List.append_assoc, fillN_of h1, fillK_of h2]
  | .intsE k n, v, ls, h, r, K, z => by
    cases v <;> simp only [unify] at h <;> try cases h
    split at h
    · rename_i e; subst e; exact fillE_of h r _ z
    · cases h
  | .agg p, v, ls, h, r, K, z => by
    cases v <;> simp only [unify] at h <;> try cases h
    exact fillL_of h r _ z
  | .tup p, v, ls, h, r, K, z => by
    cases v <;> simp only [unify] at h <;> try cases h
    exact fillL_of h r _ z
  | .nilf, v, ls, h, r, K, z => by cases v <;> simp only [unify] at h <;> cases h; rfl
  | .fn f a b, v, ls, h, r, K, z => by
    cases v <;> simp only [unify] at h <;> try cases h
    split at h
    · rename_i e; subst e
      obtain ⟨x, y, h1, h2, rfl⟩ := bind_map_some h
      simp only [fillK]
      rw [List.append_assoc, fillL_of h1, fillL_of h2]
    · cases h
theorem fillL_of : ∀ {p : List Pat} {v : List EV} {ls : List Leaf}, unifyL p v = some ls → ∀ (r : List Leaf) (K : List EV → List Leaf → α) (z : α), fillL p (ls ++ r) K z = K v r
  | [], v, ls, h, r, K, z => by cases v <;> simp only [unifyL] at h <;> cases h; rfl
  | p :: q, v, ls, h, r, K, z => by
    cases v with
    | nil => simp only [unifyL] at h; cases h
    | cons v l =>
      simp only [unifyL] at h
      obtain ⟨x, y, h1, h2, rfl⟩ := bind_map_some h
      simp only [fillL]
      rw [List.append_assoc, fillK_of h1, fillL_of h2]
end

/-! ### Rows and frames -/
def unifyH : List (Bool × Pat) → List Row → Option (List Leaf)
  | [], [] => some []
  | (o, p) :: r, ⟨o', c⟩ :: h => if o = o' then (unify p c).bind fun a => (unifyH r h).map (a ++ ·) else none
  | _, _ => none
def unifyV : List (Nat × Pat) → Env → Option (List Leaf)
  | [], [] => some []
  | (t, p) :: r, (t', v) :: e => if t = t' then (unify p v).bind fun a => (unifyV r e).map (a ++ ·) else none
  | _, _ => none
def fillH : List (Bool × Pat) → List Leaf → (List Row → List Leaf → α) → α → α
  | [], ls, K, z => K [] ls
  | (o, p) :: r, ls, K, z => fillK p ls (fun c ls => fillH r ls (fun h ls => K (⟨o, c⟩ :: h) ls) z) z
def fillV : List (Nat × Pat) → List Leaf → (Env → List Leaf → α) → α → α
  | [], ls, K, z => K [] ls
  | (t, p) :: r, ls, K, z => fillK p ls (fun c ls => fillV r ls (fun h ls => K ((t, c) :: h) ls) z) z
theorem fillH_of : ∀ {p : List (Bool × Pat)} {v : List Row} {ls : List Leaf}, unifyH p v = some ls → ∀ (r : List Leaf) (K : List Row → List Leaf → α) (z : α), fillH p (ls ++ r) K z = K v r
  | [], [], ls, h, r, K, z => by cases h; rfl
  | (o, p) :: q, ⟨o', c⟩ :: v, ls, h, r, K, z => by
    simp only [unifyH] at h
    split at h
    · rename_i e; subst e
      obtain ⟨x, y, h1, h2, rfl⟩ := bind_map_some h
      simp only [fillH]
      rw [List.append_assoc, fillK_of h1, fillH_of h2]
    · cases h
  | [], _ :: _, ls, h, r, K, z => by cases h
  | _ :: _, [], ls, h, r, K, z => by simp [unifyH] at h
theorem fillV_of : ∀ {p : List (Nat × Pat)} {v : Env} {ls : List Leaf}, unifyV p v = some ls → ∀ (r : List Leaf) (K : Env → List Leaf → α) (z : α), fillV p (ls ++ r) K z = K v r
  | [], [], ls, h, r, K, z => by cases h; rfl
  | (o, p) :: q, (o', c) :: v, ls, h, r, K, z => by
    simp only [unifyV] at h
    split at h
    · rename_i e; subst e
      obtain ⟨x, y, h1, h2, rfl⟩ := bind_map_some h
      simp only [fillV]
      rw [List.append_assoc, fillK_of h1, fillV_of h2]
    · cases h
  | [], _ :: _, ls, h, r, K, z => by cases h
  | _ :: _, [], ls, h, r, K, z => by simp [unifyV] at h

/-- Of each of a list, by its place. -/
def AllIns {β : Type} (Q : Nat → β → Prop) : List β → Nat → Prop
  | [], _ => True
  | a :: l, i => Q i a ∧ AllIns Q l (i + 1)
theorem all_ins' {β : Type} {Q : Nat → β → Prop} : ∀ {l : List β} {k : Nat}, AllIns Q l k → ∀ i a, l[i]? = some a → Q (k + i) a
  | [], k, _, i, a, h => by cases h
  | b :: l, k, hq, 0, a, h => by cases h; exact hq.1
  | b :: l, k, hq, i + 1, a, h => by
    have := all_ins' hq.2 i a h
    rwa [Nat.add_right_comm, Nat.add_assoc] at this
theorem all_ins {β : Type} {Q : Nat → β → Prop} {l : List β} (h : AllIns Q l 0) (i : Nat) (a : β) (hi : l[i]? = some a) : Q i a := by
  have := all_ins' h i a hi
  rwa [Nat.zero_add] at this

structure SPat where
  env : List (Nat × Pat)
  heap : List (Bool × Pat)
  gone : List Nat := []
  m : Nat := 0
def unifyS (p : SPat) (st : St) : Option (List Leaf) := match st.mvs with
  | [] => if p.gone = st.gone ∧ p.m = st.m then (unifyV p.env st.env).bind fun a => (unifyH p.heap st.heap).map (a ++ ·) else none
  | _ => none
def fillS (p : SPat) (ls : List Leaf) (K : St → α) (z : α) : α := fillV p.env ls (fun env ls => fillH p.heap ls (fun heap ls => asE ls (K { env := env, heap := heap, mvs := [], gone := p.gone, m := p.m }) z) z) z
theorem fillS_of {p : SPat} {st : St} {ls : List Leaf} (h : unifyS p st = some ls) (K : St → α) (z : α) : fillS p ls K z = K st := by
  unfold unifyS at h
  split at h
  · rename_i hm
    split at h
    · rename_i hg
      obtain ⟨x, y, h1, h2, rfl⟩ := bind_map_some h
      unfold fillS
      rw [fillV_of h1]
      have := fillH_of h2 [] (fun heap ls => asE ls (K { env := st.env, heap := heap, mvs := [], gone := p.gone, m := p.m }) z) z
      rw [List.append_nil] at this
      rw [this]
      obtain ⟨e, hh, m, g, m0⟩ := st
      simp only at hm hg
      obtain ⟨hg1, hg2⟩ := hg
      subst hm hg1 hg2
      rfl
    · cases h
  · cases h

/-! ### Pieces of code that are told of from outside -/
structure Orc where
  ins : List SPat
  outs : List (SX × SPat)
  L : Nat × List Leaf → Option (Nat × List Leaf)
def altK (o : Option (Nat × List Leaf)) (ks : List (List Leaf → α)) (z : α) : α := match o with
  | some (j, r) => match ks[j]? with
    | some k => k r
    | none => z
  | none => z
theorem altK_none (ks : List (List Leaf → α)) (z : α) : altK none ks z = z := rfl
theorem altK_some (j : Nat) (r : List Leaf) (ks : List (List Leaf → α)) (z : α) : altK (some (j, r)) ks z = (match ks[j]? with | some k => k r | none => z) := rfl
theorem altK_0 (r : List Leaf) (k : List Leaf → α) (ks : List (List Leaf → α)) (z : α) : altK (some (0, r)) (k :: ks) z = k r := rfl
theorem altK_1 (r : List Leaf) (k k' : List Leaf → α) (ks : List (List Leaf → α)) (z : α) : altK (some (1, r)) (k :: k' :: ks) z = k' r := rfl
theorem altK_2 (r : List Leaf) (k k' k2 : List Leaf → α) (ks : List (List Leaf → α)) (z : α) : altK (some (2, r)) (k :: k' :: k2 :: ks) z = k2 r := rfl
theorem altK_3 (r : List Leaf) (k k' k2 k3 : List Leaf → α) (ks : List (List Leaf → α)) (z : α) : altK (some (3, r)) (k :: k' :: k2 :: k3 :: ks) z = k3 r := rfl
def findIn : List SPat → St → Nat → (Nat → List Leaf → α) → α → α
  | [], st, i, K, z => z
  | p :: r, st, i, K, z => match unifyS p st with
    | some ls => K i ls
    | none => findIn r st (i + 1) K z
def orcK (o : Orc) (st : St) (K : SX × St → α) (z : α) : α :=
  findIn o.ins st 0 (fun i ls => altK (o.L (i, ls)) (o.outs.map fun p r => fillS p.2 r (fun st' => K (p.1, st')) z) z) z
def okOf (os : List Orc) : OrcK := fun α i st K z => match os[i]? with
  | some o => orcK o st K z
  | none => z
def OrcSound (C : CallF) (a : SC) (o : Orc) : Prop := ∀ (i : Nat) (ls : List Leaf) (j : Nat) (r : List Leaf) (sh : SPat) (st : St), o.L (i, ls) = some (j, r) → o.ins[i]? = some sh → unifyS sh st = some ls →
  ∃ x st' p, evC C a st = some (x, st') ∧ o.outs[j]? = some (x, p) ∧ unifyS p st' = some r
theorem findIn_spec {K : Nat → List Leaf → α} {z : α} : ∀ {l : List SPat} {st : St} {k : Nat}, findIn l st k K z = z ∨ ∃ i sh ls, l[i]? = some sh ∧ unifyS sh st = some ls ∧ findIn l st k K z = K (k + i) ls
  | [], st, k => .inl rfl
  | p :: r, st, k => by
    unfold findIn
    split
    · rename_i ls h
      exact .inr ⟨0, p, ls, rfl, h, rfl⟩
    · rcases findIn_spec (l := r) (st := st) (k := k + 1) with e | ⟨i, sh, ls, h1, h2, h3⟩
      · exact .inl e
      · exact .inr ⟨i + 1, sh, ls, by simpa using h1, h2, by rw [h3]; congr 1; omega⟩
theorem orcK_ok {C : CallF} {a : SC} {o : Orc} (h : OrcSound C a o) {st : St} {K : SX × St → α} {z : α} : Leads (orcK o st K z) (evC C a st) K z := by
  unfold orcK
  rcases findIn_spec (l := o.ins) (st := st) (k := 0) (K := fun i ls => altK (o.L (i, ls)) (o.outs.map fun p r => fillS p.2 r (fun st' => K (p.1, st')) z) z) (z := z) with e | ⟨i, sh, ls, h1, h2, h3⟩
  · exact .inl e
  · rw [h3, Nat.zero_add]
    cases hL : o.L (i, ls) with
    | none => exact .z
    | some p =>
      obtain ⟨j, r⟩ := p
      obtain ⟨x, st', q, e1, e2, e3⟩ := h i ls j r sh st hL h1 h2
      refine .inr ⟨(x, st'), e1, ?_⟩
      rw [altK_some, List.getElem?_map, e2]
      exact fillS_of e3 _ _
theorem okOf_ok {os : List Orc} {C : CallF} {i : Nat} {a : SC} {o : Orc} (hi : os[i]? = some o) (h : OrcSound C a o) : ∀ (α : Type) (st : St) (K : SX × St → α) (z : α), Leads (okOf os α i st K z) (evC C a st) K z := by
  intro α st K z
  unfold okOf
  rw [hi]
  exact orcK_ok h

/-- Which of the shapes is it, and with which leaves? -/
def findOut : List (SX × SPat) → Nat → SX × St → Option (Nat × List Leaf)
  | [], _, _ => none
  | p :: r, j, x => if p.1 = x.1 then (match unifyS p.2 x.2 with
      | some ls => some (j, ls)
      | none => findOut r (j + 1) x) else findOut r (j + 1) x
theorem findOut_spec : ∀ {l : List (SX × SPat)} {k : Nat} {x : SX × St} {j : Nat} {ls : List Leaf}, findOut l k x = some (j, ls) → ∃ i p, j = k + i ∧ l[i]? = some (x.1, p) ∧ unifyS p x.2 = some ls
  | [], k, x, j, ls, h => by cases h
  | p :: r, k, x, j, ls, h => by
    have rest : findOut r (k + 1) x = some (j, ls) → ∃ i p', j = k + i ∧ (p :: r)[i]? = some (x.1, p') ∧ unifyS p' x.2 = some ls := fun h => by
      obtain ⟨i, q, e, h1, h2⟩ := findOut_spec h
      exact ⟨i + 1, q, by omega, by simpa using h1, h2⟩
    unfold findOut at h
    split at h
    · rename_i e
      split at h
      · rename_i ls' hu
        cases h
        exact ⟨0, p.2, rfl, by rw [← e]; rfl, hu⟩
      · exact rest h
    · exact rest h

/-- A piece that is run once. -/
theorem piece_sound {CK : CallK} {OK : OrcK} {C : CallF} (hC : CallKOk CK C) {b : KC} (hO : OrcsOk OK C b) {o : Orc}
    (hf : ∀ (i : Nat) (sh : SPat), o.ins[i]? = some sh → ∀ ls : List Leaf, fillS sh ls (fun st => evK CK OK b st (findOut o.outs 0) none) none = o.L (i, ls)) : OrcSound C b.sc o := by
  intro i ls j r sh st hL hi hu
  have e := hf i sh hi ls
  rw [fillS_of hu, hL] at e
  rcases evK_ok (α := Option (Nat × List Leaf)) hC hO (st := st) (K := findOut o.outs 0) (z := none) with h | ⟨⟨x, st'⟩, h1, h2⟩
  · rw [h] at e; cases e
  · rw [h2] at e
    obtain ⟨i', p, e', h3, h4⟩ := findOut_spec e
    rw [Nat.zero_add] at e'
    subst e'
    exact ⟨x, st', p, h1, h3, h4⟩

/-- A loop: 'm' shapes at its head; the step's answers below m are rounds that go on. -/
def iterL (m : Nat) (f : Nat × List Leaf → Option (Nat × List Leaf)) : Nat → Nat × List Leaf → Option (Nat × List Leaf)
  | 0, _ => none
  | n + 1, s => match f s with
    | some (j, r) => if j < m then iterL m f n (j, r) else some (j - m, r)
    | none => none
def loopL (m : Nat) (f : Nat × List Leaf → Option (Nat × List Leaf)) (s : Nat × List Leaf) : Option (Nat × List Leaf) := iterL m f loopFuel s
theorem loop_sound {CK : CallK} {OK : OrcK} {C : CallF} (hC : CallKOk CK C) {b : KC} (hO : OrcsOk OK C b) {ins : List SPat} {outs : List (SX × SPat)} {f : Nat × List Leaf → Option (Nat × List Leaf)} (hN : outs.all (fun p => decide (p.1 ≠ .normal)) = true)
    (hf : ∀ (i : Nat) (sh : SPat), ins[i]? = some sh → ∀ ls : List Leaf, fillS sh ls (fun st => evK CK OK b st (findOut (ins.map (SX.normal, ·) ++ outs) 0) none) none = f (i, ls)) : OrcSound C (.loop b.sc) ⟨ins, outs, loopL ins.length f⟩ := by
  have key : ∀ (n i : Nat) (ls : List Leaf) (j : Nat) (r : List Leaf) (sh : SPat) (st : St), iterL ins.length f n (i, ls) = some (j, r) → ins[i]? = some sh → unifyS sh st = some ls →
      ∃ x st' p, iter (evC C b.sc) n st = some (x, st') ∧ outs[j]? = some (x, p) ∧ unifyS p st' = some r := by
    intro n
    induction n with
    | zero => intro i ls j r sh st h; cases h
    | succ n ih =>
      intro i ls j r sh st hL hi hu
      have e := hf i sh hi ls
      rw [fillS_of hu] at e
      unfold iterL at hL
      split at hL
      · rename_i j' r' hstep
        rw [hstep] at e
        rcases evK_ok (α := Option (Nat × List Leaf)) hC hO (st := st) (K := findOut (ins.map (SX.normal, ·) ++ outs) 0) (z := none) with h | ⟨⟨x, st'⟩, h1, h2⟩
        · rw [h] at e; cases e
        · rw [h2] at e
          obtain ⟨i', p, e', h3, h4⟩ := findOut_spec e
          rw [Nat.zero_add] at e'
          subst e'
          unfold iter
          rw [h1]
          split at hL
          · rename_i hlt
            rw [List.getElem?_append_left (by simpa using hlt), List.getElem?_map] at h3
            cases hsh : ins[j']? with
            | none => rw [hsh] at h3; cases h3
            | some sh' =>
              rw [hsh] at h3
              simp only [Option.map_some, Option.some.injEq, Prod.mk.injEq] at h3
              obtain ⟨hx, rfl⟩ := h3
              subst hx
              exact ih j' r' j r sh' st' hL hsh h4
          · rename_i hge
            simp only [Option.some.injEq, Prod.mk.injEq] at hL
            obtain ⟨rfl, rfl⟩ := hL
            rw [List.getElem?_append_right (by simpa using hge), List.length_map] at h3
            have hne : x ≠ .normal := by
              have := List.all_eq_true.1 hN _ (List.mem_of_getElem? h3)
              simpa using this
            refine ⟨x, st', p, ?_, h3, h4⟩
            cases x with
            | normal => exact absurd rfl hne
            | exit i => rfl
            | ret => rfl
      · cases hL
  intro i ls j r sh st hL hi hu
  exact key loopFuel i ls j r sh st hL hi hu

/-! ### Calls -/
structure APat where
  args : List Pat
  rows : List (Bool × Pat)
structure RPat where
  v : Pat
  rows : List (Bool × Pat)
  mv : List Nat
structure Ent where
  ins : List APat
  outs : List RPat
  L : Nat × List Leaf → Option (Nat × List Leaf)
def unifyA (p : APat) (args : List EV) (h : List Row) : Option (List Leaf) := (unifyL p.args args).bind fun a => (unifyH p.rows h).map (a ++ ·)
def unifyR (p : RPat) (x : EV × List Row × List Nat) : Option (List Leaf) := if p.mv = x.2.2 then (unify p.v x.1).bind fun a => (unifyH p.rows x.2.1).map (a ++ ·) else none
def fillA (p : APat) (ls : List Leaf) (K : List EV → List Row → α) (z : α) : α := fillL p.args ls (fun args ls => fillH p.rows ls (fun h ls => asE ls (K args h) z) z) z
def fillR (p : RPat) (ls : List Leaf) (K : EV × List Row × List Nat → α) (z : α) : α := fillK p.v ls (fun v ls => fillH p.rows ls (fun h ls => asE ls (K (v, h, p.mv)) z) z) z
theorem fillA_of {p : APat} {args : List EV} {h : List Row} {ls : List Leaf} (hu : unifyA p args h = some ls) (K : List EV → List Row → α) (z : α) : fillA p ls K z = K args h := by
  obtain ⟨x, y, h1, h2, rfl⟩ := bind_map_some hu
  unfold fillA
  rw [fillL_of h1]
  have := fillH_of h2 [] (fun h ls => asE ls (K args h) z) z
  rw [List.append_nil] at this
  exact this
theorem fillR_of {p : RPat} {x : EV × List Row × List Nat} {ls : List Leaf} (hu : unifyR p x = some ls) (K : EV × List Row × List Nat → α) (z : α) : fillR p ls K z = K x := by
  unfold unifyR at hu
  split at hu
  · rename_i hm
    obtain ⟨a, b, h1, h2, rfl⟩ := bind_map_some hu
    unfold fillR
    rw [fillK_of h1]
    have := fillH_of h2 [] (fun h ls => asE ls (K (x.1, h, p.mv)) z) z
    rw [List.append_nil] at this
    rw [this, hm]
    rfl
  · cases hu
def findA : List APat → List EV → List Row → Nat → (Nat → List Leaf → α) → α → α
  | [], args, h, i, K, z => z
  | p :: r, args, h, i, K, z => match unifyA p args h with
    | some ls => K i ls
    | none => findA r args h (i + 1) K z
theorem findA_spec {K : Nat → List Leaf → α} {z : α} : ∀ {l : List APat} {args : List EV} {h : List Row} {k : Nat}, findA l args h k K z = z ∨ ∃ i sh ls, l[i]? = some sh ∧ unifyA sh args h = some ls ∧ findA l args h k K z = K (k + i) ls
  | [], args, h, k => .inl rfl
  | p :: r, args, h, k => by
    unfold findA
    split
    · rename_i ls hu
      exact .inr ⟨0, p, ls, rfl, hu, rfl⟩
    · rcases findA_spec (l := r) (args := args) (h := h) (k := k + 1) with e | ⟨i, sh, ls, h1, h2, h3⟩
      · exact .inl e
      · exact .inr ⟨i + 1, sh, ls, by simpa using h1, h2, by rw [h3]; congr 1; omega⟩
def entK (e : Ent) (args : List EV) (h : List Row) (K : EV × List Row × List Nat → α) (z : α) : α :=
  findA e.ins args h 0 (fun i ls => altK (e.L (i, ls)) (e.outs.map fun p r => fillR p r K z) z) z
def ckOf (es : List (FuncId × Ent)) : CallK := fun α f args h K z => go es f args h K z
where go {α : Type} : List (FuncId × Ent) → FuncId → List EV → List Row → (EV × List Row × List Nat → α) → α → α
  | [], f, args, h, K, z => z
  | (g, e) :: r, f, args, h, K, z => cond (f == g) (entK e args h K z) (go r f args h K z)
def EntSound (C : CallF) (f : FuncId) (e : Ent) : Prop := ∀ (i : Nat) (ls : List Leaf) (j : Nat) (r : List Leaf) (sh : APat) (args : List EV) (h : List Row), e.L (i, ls) = some (j, r) → e.ins[i]? = some sh → unifyA sh args h = some ls →
  ∃ x p, C f args h = some x ∧ e.outs[j]? = some p ∧ unifyR p x = some r
theorem entK_ok {C : CallF} {f : FuncId} {e : Ent} (he : EntSound C f e) {args : List EV} {h : List Row} {K : EV × List Row × List Nat → α} {z : α} : Leads (entK e args h K z) (C f args h) K z := by
  unfold entK
  rcases findA_spec (l := e.ins) (args := args) (h := h) (k := 0) (K := fun i ls => altK (e.L (i, ls)) (e.outs.map fun p r => fillR p r K z) z) (z := z) with h0 | ⟨i, sh, ls, h1, h2, h3⟩
  · exact .inl h0
  · rw [h3, Nat.zero_add]
    cases hL : e.L (i, ls) with
    | none => exact .z
    | some p =>
      obtain ⟨j, r⟩ := p
      obtain ⟨x, q, e1, e2, e3⟩ := he i ls j r sh args h hL h1 h2
      refine .inr ⟨x, e1, ?_⟩
      rw [altK_some, List.getElem?_map, e2]
      exact fillR_of e3 _ _
theorem ckOf_ok {C : CallF} : ∀ {es : List (FuncId × Ent)}, (∀ p ∈ es, EntSound C p.1 p.2) → CallKOk (ckOf es) C := by
  intro es h α f args hh K z
  show Leads (ckOf.go es f args hh K z) _ _ _
  induction es with
  | nil => exact .z
  | cons p r ih =>
    unfold ckOf.go
    refine .cond (fun e => ?_) fun _ => ih fun q hq => h q (by simp [hq])
    rw [beq_iff_eq] at e
    subst e
    exact entK_ok (h p (by simp))
theorem ckOf_nil {C : CallF} : CallKOk (ckOf []) C := ckOf_ok fun _ h => (by cases h)
theorem ckOf_cons {C : CallF} {f : FuncId} {e : Ent} {es : List (FuncId × Ent)} (h : EntSound C f e) (hr : CallKOk (ckOf es) C) : CallKOk (ckOf ((f, e) :: es)) C := by
  intro α g args hh K z
  show Leads (ckOf.go ((f, e) :: es) g args hh K z) _ _ _
  unfold ckOf.go
  refine .cond (fun e' => ?_) fun _ => hr α g args hh K z
  rw [beq_iff_eq] at e'
  subst e'
  exact entK_ok h

def findRes : List RPat → Nat → EV × List Row × List Nat → Option (Nat × List Leaf)
  | [], _, _ => none
  | p :: r, j, x => match unifyR p x with
    | some ls => some (j, ls)
    | none => findRes r (j + 1) x
theorem findRes_spec : ∀ {l : List RPat} {k : Nat} {x : EV × List Row × List Nat} {j : Nat} {ls : List Leaf}, findRes l k x = some (j, ls) → ∃ i p, j = k + i ∧ l[i]? = some p ∧ unifyR p x = some ls
  | [], k, x, j, ls, h => by cases h
  | p :: r, k, x, j, ls, h => by
    unfold findRes at h
    split at h
    · rename_i ls' hu
      cases h
      exact ⟨0, p, rfl, rfl, hu⟩
    · obtain ⟨i, q, e, h1, h2⟩ := findRes_spec h
      exact ⟨i + 1, q, by omega, by simpa using h1, h2⟩
/-- A function, as a function of leaves. -/
theorem fn_sound {tab : FuncId → Option SFn} {n : Nat} {CK : CallK} {OK : OrcK} (hC : CallKOk CK (evF tab n)) {body : KC} (hO : OrcsOk OK (evF tab n) body) {f : FuncId} {fn : SFn} (hf : tab f = some fn) (hb : body.sc = fn.body) {e : Ent}
    (hg : ∀ (i : Nat) (sh : APat), e.ins[i]? = some sh → ∀ ls : List Leaf, fillA sh ls (fun args h => fnK CK OK fn body args h (findRes e.outs 0) none) none = e.L (i, ls)) (hx : fn.ext = none := by rfl) : EntSound (evF tab (n + 1)) f e := by
  intro i ls j r sh args h hL hi hu
  have e' := hg i sh hi ls
  rw [fillA_of hu, hL] at e'
  rcases fnK_ok (α := Option (Nat × List Leaf)) hC hO hf hx hb (args := args) (h := h) (K := findRes e.outs 0) (z := none) with h0 | ⟨x, h1, h2⟩
  · rw [h0] at e'; cases e'
  · rw [h2] at e'
    obtain ⟨i', p, e2, h3, h4⟩ := findRes_spec e'
    rw [Nat.zero_add] at e2
    subst e2
    exact ⟨x, p, h1, h3, h4⟩
/-- Another function of leaves that answers no more. -/
theorem EntSound.mono {C : CallF} {f : FuncId} {ins : List APat} {outs : List RPat} {L L' : Nat × List Leaf → Option (Nat × List Leaf)} (h : EntSound C f ⟨ins, outs, L⟩) (hm : ∀ s r, L' s = some r → L s = some r) : EntSound C f ⟨ins, outs, L'⟩ :=
  fun i ls j r sh args hh hL hi hu => h i ls j r sh args hh (hm _ _ hL) hi hu
theorem EntSound.ret {C : CallF} {f : FuncId} {e : Ent} (h : EntSound C f e) {i j : Nat} {ls r : List Leaf} {sh : APat} {p : RPat} {args : List EV} {hh : List Row} {x : EV × List Row × List Nat} (hL : e.L (i, ls) = some (j, r)) (hi : e.ins[i]? = some sh) (hu : unifyA sh args hh = some ls) (hj : e.outs[j]? = some p) (hx : fillR p r some none = some x) : C f args hh = some x := by
  obtain ⟨y, q, h1, h2, h3⟩ := h i ls j r sh args hh hL hi hu
  rw [hj] at h2
  cases h2
  rw [fillR_of h3] at hx
  cases hx
  exact h1
end
end Go.Sx
