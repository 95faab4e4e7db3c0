/-
  Shapes of values, rows and frames, with leaves that are not known; loops, pieces and calls as functions of leaves. Conditions: none.
-/
import Derived.Test.YtlbfafbhflblcaaSxU
namespace Go.Sx
open Go
set_option linter.unusedVariables false
inductive Leaf where
  | i (n : Int)
  | b (b : Bool)
  | n (n : Nat)
  | l (l : List Int)
  | s (s : List UInt8)
  | x (l : List NC)
  | t (l : List ME)
section
variable {α : Type}
def asI (ls : List Leaf) (k : Int → List Leaf → α) (z : α) : α := match ls with
  | .i n :: r => k n r
  | _ => z
def asB (ls : List Leaf) (k : Bool → List Leaf → α) (z : α) : α := match ls with
  | .b n :: r => k n r
  | _ => z
def asN (ls : List Leaf) (k : Nat → List Leaf → α) (z : α) : α := match ls with
  | .n n :: r => k n r
  | _ => z
def asL (ls : List Leaf) (k : List Int → List Leaf → α) (z : α) : α := match ls with
  | .l n :: r => k n r
  | _ => z
def asS (ls : List Leaf) (k : List UInt8 → List Leaf → α) (z : α) : α := match ls with
  | .s n :: r => k n r
  | _ => z
def asX (ls : List Leaf) (k : List NC → List Leaf → α) (z : α) : α := match ls with
  | .x n :: r => k n r
  | _ => z
def asT (ls : List Leaf) (k : List ME → List Leaf → α) (z : α) : α := match ls with
  | .t n :: r => k n r
  | _ => z
def asE (ls : List Leaf) (k : α) (z : α) : α := match ls with
  | [] => k
  | _ => z
theorem asI_i (n : Int) (r : List Leaf) (k : Int → List Leaf → α) (z : α) : asI (.i n :: r) k z = k n r := rfl
theorem ZQ (n : Bool) (r : List Leaf) (k : Bool → List Leaf → α) (z : α) : asB (.b n :: r) k z = k n r := rfl
theorem Zh (n : Nat) (r : List Leaf) (k : Nat → List Leaf → α) (z : α) : asN (.n n :: r) k z = k n r := rfl
theorem Zj (n : List Int) (r : List Leaf) (k : List Int → List Leaf → α) (z : α) : asL (.l n :: r) k z = k n r := rfl
theorem Ze3 (n : List UInt8) (r : List Leaf) (k : List UInt8 → List Leaf → α) (z : α) : asS (.s n :: r) k z = k n r := rfl
theorem Zar (n : List NC) (r : List Leaf) (k : List NC → List Leaf → α) (z : α) : asX (.x n :: r) k z = k n r := rfl
theorem Zv (n : List ME) (r : List Leaf) (k : List ME → List Leaf → α) (z : α) : asT (.t n :: r) k z = k n r := rfl
theorem Za (k : α) (z : α) : asE [] k z = k := rfl
inductive NP where
  | c (n : Nat)
  | h
inductive Pat where
  | unk
  | bool
  | cbool (b : Bool)
  | int (k : IntKind)
  | cint (k : IntKind) (n : Int)
  | str
  | nilp
  | ptr (r : Nat) (o : NP)
  | nils
  | slice (r : Nat) (o n : NP) (z : Nat)
  | ints (k : IntKind)
  | mix (ks : List CK)
  | nest (ks : List NK)
  | ro (c : Pat) (n : NP) (z : Nat)
  | rp (c : Pat) (o : NP)
  | intsE (k : IntKind) (n : Nat)
  | agg (l : List Pat)
  | tup (l : List Pat)
  | nilf
  | fn (f : FuncId) (a b : List Pat)
  | tree (z : Nat)
  | tp (r : Nat) (o : NP)
def ZdO (p : NP) (n : Nat) : Option (List Leaf) := match p with
  | .c m => if m = n then some [] else none
  | .h => some [.n n]
def Zha : Nat → List Int → Option (List Leaf)
  | 0, [] => some []
  | n + 1, x :: l => (Zha n l).map (.i x :: ·)
  | _, _ => none
mutual
def ZaH : Pat → EV → Option (List Leaf)
  | .unk, v => match v with | .unk => some [] | _ => none
  | .bool, v => match v with | .bool b => some [.b b] | _ => none
  | .cbool c, v => match v with | .bool b => if c = b then some [] else none | _ => none
  | .int k, v => match v with | .int k' n => if k = k' then some [.i n] else none | _ => none
  | .cint k m, v => match v with | .int k' n => if k = k' then (if m = n then some [] else none) else none | _ => none
  | .str, v => match v with | .str s => some [.s s] | _ => none
  | .nilp, v => match v with | .nilp => some [] | _ => none
  | .ptr r o, v => match v with | .ptr r' o' => if r = r' then ZdO o o' else none | _ => none
  | .nils, v => match v with | .nils => some [] | _ => none
  | .slice r o n z, v => match v with | .slice r' o' n' z' => if r = r' then (if z = z' then (ZdO o o').bind fun a => (ZdO n n').map (a ++ ·) else none) else none | _ => none
  | .ints k, v => match v with | .ints k' l => if k = k' then some [.l l] else none | _ => none
  | .mix ks, v => match v with | .mix ks' l => if ks = ks' then some [.l l] else none | _ => none
  | .nest ks, v => match v with | .nest ks' l => if ks = ks' then some [.x l] else none | _ => none
  | .ro c n z, v => match v with | .ro c' n' z' => if z = z' then (ZdO n n').bind fun a => (ZaH c c').map (a ++ ·) else none | _ => none
  | .rp c o, v => match v with | .rp c' o' => (ZdO o o').bind fun a => (ZaH c c').map (a ++ ·) | _ => none
  | .intsE k n, v => match v with | .ints k' l => if k = k' then Zha n l else none | _ => none
  | .agg p, v => match v with | .agg l => ZbR p l | _ => none
  | .tup p, v => match v with | .tup l => ZbR p l | _ => none
  | .nilf, v => match v with | .nilf => some [] | _ => none
  | .fn f a b, v => match v with | .fn f' a' b' => if f = f' then (ZbR a a').bind fun x => (ZbR b b').map (x ++ ·) else none | _ => none
  | .tree z, v => match v with | .tree z' l => if z = z' then some [.t l] else none | _ => none
  | .tp r o, v => match v with | .tp r' o' => if r = r' then ZdO o o' else none | _ => none
def ZbR : List Pat → List EV → Option (List Leaf)
  | [], l => match l with | [] => some [] | _ => none
  | p :: r, l => match l with | v :: l => (ZaH p v).bind fun a => (ZbR r l).map (a ++ ·) | [] => none
end
def ZhN (p : NP) (ls : List Leaf) (K : Nat → List Leaf → α) (z : α) : α := match p with
  | .c m => K m ls
  | .h => asN ls K z
def Zm3 : Nat → List Leaf → (List Int → List Leaf → α) → α → α
  | 0, ls, K, z => K [] ls
  | n + 1, ls, K, z => asI ls (fun x r => Zm3 n r (fun l r => K (x :: l) r) z) z
mutual
def ZeR : Pat → List Leaf → (EV → List Leaf → α) → α → α
  | .unk, ls, K, z => K .unk ls
  | .bool, ls, K, z => asB ls (fun b r => K (.bool b) r) z
  | .cbool c, ls, K, z => K (.bool c) ls
  | .int k, ls, K, z => asI ls (fun n r => K (.int k n) r) z
  | .cint k m, ls, K, z => K (.int k m) ls
  | .str, ls, K, z => asS ls (fun n r => K (.str n) r) z
  | .nilp, ls, K, z => K .nilp ls
  | .ptr r o, ls, K, z => ZhN o ls (fun o ls => K (.ptr r o) ls) z
  | .nils, ls, K, z => K .nils ls
  | .slice r o n s, ls, K, z => ZhN o ls (fun o ls => ZhN n ls (fun n ls => K (.slice r o n s) ls) z) z
  | .ints k, ls, K, z => asL ls (fun l r => K (.ints k l) r) z
  | .mix ks, ls, K, z => asL ls (fun l r => K (.mix ks l) r) z
  | .nest ks, ls, K, z => asX ls (fun l r => K (.nest ks l) r) z
  | .ro c n s, ls, K, z => ZhN n ls (fun n ls => ZeR c ls (fun c ls => K (.ro c n s) ls) z) z
  | .rp c o, ls, K, z => ZhN o ls (fun o ls => ZeR c ls (fun c ls => K (.rp c o) ls) z) z
  | .intsE k n, ls, K, z => Zm3 n ls (fun l r => K (.ints k l) r) z
  | .agg p, ls, K, z => Zhb p ls (fun l r => K (.agg l) r) z
  | .tup p, ls, K, z => Zhb p ls (fun l r => K (.tup l) r) z
  | .nilf, ls, K, z => K .nilf ls
  | .fn f a b, ls, K, z => Zhb a ls (fun a ls => Zhb b ls (fun b ls => K (.fn f a b) ls) z) z
  | .tree s, ls, K, z => asT ls (fun l r => K (.tree s l) r) z
  | .tp r o, ls, K, z => ZhN o ls (fun o ls => K (.tp r o) ls) z
def Zhb : List Pat → List Leaf → (List EV → List Leaf → α) → α → α
  | [], ls, K, z => K [] ls
  | p :: r, ls, K, z => ZeR p ls (fun v ls => Zhb r ls (fun l ls => K (v :: l) ls) z) z
end
theorem ZZ {a b : Option (List Leaf)} {ls : List Leaf} (h : (a.bind fun x => b.map (x ++ ·)) = some ls) : ∃ x y, a = some x ∧ b = some y ∧ ls = x ++ y := by
  cases a with
  | none => cases h
  | some x => cases b with
    | none => cases h
    | some y => exact ⟨x, y, rfl, rfl, by simpa using h.symm⟩
theorem Zcq {p : NP} {n : Nat} {ls : List Leaf} (h : ZdO p n = some ls) (r : List Leaf) (K : Nat → List Leaf → α) (z : α) : ZhN p (ls ++ r) K z = K n r := by
  cases p with
  | c m =>
    simp only [ZdO] at h
    split at h
    · rename_i e
      subst e
      cases h
      rfl
    · cases h
  | h => cases h; rfl
theorem ZiP : ∀ {n : Nat} {l : List Int} {ls : List Leaf}, Zha n l = some ls → ∀ (r : List Leaf) (K : List Int → List Leaf → α) (z : α), Zm3 n (ls ++ r) K z = K l r
  | 0, [], ls, h, r, K, z => by cases h; rfl
  | n + 1, x :: l, ls, h, r, K, z => by
    simp only [Zha] at h
    cases e : Zha n l with
    | none => rw [e] at h; cases h
    | some y =>
      rw [e] at h
      cases h
      exact ZiP e r (fun l r => K (x :: l) r) z
  | 0, _ :: _, ls, h, r, K, z => by cases h
  | _ + 1, [], ls, h, r, K, z => by cases h
mutual
theorem Zcr : ∀ {p : Pat} {v : EV} {ls : List Leaf}, ZaH p v = some ls → ∀ (r : List Leaf) (K : EV → List Leaf → α) (z : α), ZeR p (ls ++ r) K z = K v r
  | .unk, v, ls, h, r, K, z => by cases v <;> simp only [ZaH] at h <;> cases h; rfl
  | .bool, v, ls, h, r, K, z => by cases v <;> simp only [ZaH] at h <;> cases h; rfl
  | .cbool c, v, ls, h, r, K, z => by
    cases v <;> simp only [ZaH] at h <;> try cases h
    split at h
    · rename_i e; subst e; cases h; rfl
    · cases h
  | .int k, v, ls, h, r, K, z => by
    cases v <;> simp only [ZaH] at h <;> try cases h
    split at h
    · rename_i e; subst e; cases h; rfl
    · cases h
  | .cint k m, v, ls, h, r, K, z => by
    cases v <;> simp only [ZaH] at h <;> try cases h
    split at h
    · rename_i e; subst e
      split at h
      · rename_i e; subst e; cases h; rfl
      · cases h
    · cases h
  | .str, v, ls, h, r, K, z => by cases v <;> simp only [ZaH] at h <;> cases h; rfl
  | .nilp, v, ls, h, r, K, z => by cases v <;> simp only [ZaH] at h <;> cases h; rfl
  | .ptr i o, v, ls, h, r, K, z => by
    cases v <;> simp only [ZaH] at h <;> try cases h
    split at h
    · rename_i e; subst e; exact Zcq h r _ z
    · cases h
  | .nils, v, ls, h, r, K, z => by cases v <;> simp only [ZaH] at h <;> cases h; rfl
  | .slice i o n s, v, ls, h, r, K, z => by
    cases v <;> simp only [ZaH] at h <;> try cases h
    split at h
    · rename_i e; subst e
      split at h
      · rename_i e; subst e
        obtain ⟨x, y, h1, h2, rfl⟩ := ZZ h
        simp only [ZeR]
        rw [List.append_assoc, Zcq h1, Zcq h2]
      · cases h
    · cases h
  | .ints k, v, ls, h, r, K, z => by
    cases v <;> simp only [ZaH] at h <;> try cases h
    split at h
    · rename_i e; subst e; cases h; rfl
    · cases h
  | .mix ks, v, ls, h, r, K, z => by
    cases v <;> simp only [ZaH] at h <;> try cases h
    split at h
    · rename_i e; subst e; cases h; rfl
    · cases h
  | .nest ks, v, ls, h, r, K, z => by
    cases v <;> simp only [ZaH] at h <;> try cases h
    split at h
    · rename_i e; subst e; cases h; rfl
    · cases h
  | .ro c n s, v, ls, h, r, K, z => by
    cases v <;> simp only [ZaH] at h <;> try cases h
    split at h
    · rename_i e; subst e
      obtain ⟨x, y, h1, h2, rfl⟩ := ZZ h
      simp only [ZeR]
      rw [List.append_assoc, Zcq h1, Zcr h2]
    · cases h
  | .rp c o, v, ls, h, r, K, z => by
    cases v <;> simp only [ZaH] at h <;> try cases h
    obtain ⟨x, y, h1, h2, rfl⟩ := ZZ h
    simp only [ZeR]
    rw [List.append_assoc, Zcq h1, Zcr h2]
  | .intsE k n, v, ls, h, r, K, z => by
    cases v <;> simp only [ZaH] at h <;> try cases h
    split at h
    · rename_i e; subst e; exact ZiP h r _ z
    · cases h
  | .agg p, v, ls, h, r, K, z => by
    cases v <;> simp only [ZaH] at h <;> try cases h
    exact Zcs h r _ z
  | .tup p, v, ls, h, r, K, z => by
    cases v <;> simp only [ZaH] at h <;> try cases h
    exact Zcs h r _ z
  | .nilf, v, ls, h, r, K, z => by cases v <;> simp only [ZaH] at h <;> cases h; rfl
  | .fn f a b, v, ls, h, r, K, z => by
    cases v <;> simp only [ZaH] at h <;> try cases h
    split at h
    · rename_i e; subst e
      obtain ⟨x, y, h1, h2, rfl⟩ := ZZ h
      simp only [ZeR]
      rw [List.append_assoc, Zcs h1, Zcs h2]
    · cases h
  | .tree s, v, ls, h, r, K, z => by
    cases v <;> simp only [ZaH] at h <;> try cases h
    split at h
    · rename_i e; subst e; cases h; rfl
    · cases h
  | .tp i o, v, ls, h, r, K, z => by
    cases v <;> simp only [ZaH] at h <;> try cases h
    split at h
    · rename_i e; subst e; exact Zcq h r _ z
    · cases h
theorem Zcs : ∀ {p : List Pat} {v : List EV} {ls : List Leaf}, ZbR p v = some ls → ∀ (r : List Leaf) (K : List EV → List Leaf → α) (z : α), Zhb p (ls ++ r) K z = K v r
  | [], v, ls, h, r, K, z => by cases v <;> simp only [ZbR] at h <;> cases h; rfl
  | p :: q, v, ls, h, r, K, z => by
    cases v with
    | nil => simp only [ZbR] at h; cases h
    | cons v l =>
      simp only [ZbR] at h
      obtain ⟨x, y, h1, h2, rfl⟩ := ZZ h
      simp only [Zhb]
      rw [List.append_assoc, Zcr h1, Zcs h2]
end
def ZdP : List (Bool × Pat) → List Row → Option (List Leaf)
  | [], [] => some []
  | (o, p) :: r, ⟨o', c⟩ :: h => if o = o' then (ZaH p c).bind fun a => (ZdP r h).map (a ++ ·) else none
  | _, _ => none
def Zhc : List (Nat × Pat) → Env → Option (List Leaf)
  | [], [] => some []
  | (t, p) :: r, (t', v) :: e => if t = t' then (ZaH p v).bind fun a => (Zhc r e).map (a ++ ·) else none
  | _, _ => none
def Zjt : List (Bool × Pat) → List Leaf → (List Row → List Leaf → α) → α → α
  | [], ls, K, z => K [] ls
  | (o, p) :: r, ls, K, z => ZeR p ls (fun c ls => Zjt r ls (fun h ls => K (⟨o, c⟩ :: h) ls) z) z
def ZlY : List (Nat × Pat) → List Leaf → (Env → List Leaf → α) → α → α
  | [], ls, K, z => K [] ls
  | (t, p) :: r, ls, K, z => ZeR p ls (fun c ls => ZlY r ls (fun h ls => K ((t, c) :: h) ls) z) z
theorem Zd4 : ∀ {p : List (Bool × Pat)} {v : List Row} {ls : List Leaf}, ZdP p v = some ls → ∀ (r : List Leaf) (K : List Row → List Leaf → α) (z : α), Zjt p (ls ++ r) K z = K v r
  | [], [], ls, h, r, K, z => by cases h; rfl
  | (o, p) :: q, ⟨o', c⟩ :: v, ls, h, r, K, z => by
    simp only [ZdP] at h
    split at h
    · rename_i e; subst e
      obtain ⟨x, y, h1, h2, rfl⟩ := ZZ h
      simp only [Zjt]
      rw [List.append_assoc, Zcr h1, Zd4 h2]
    · cases h
  | [], _ :: _, ls, h, r, K, z => by cases h
  | _ :: _, [], ls, h, r, K, z => by simp [ZdP] at h
theorem ZiQ : ∀ {p : List (Nat × Pat)} {v : Env} {ls : List Leaf}, Zhc p v = some ls → ∀ (r : List Leaf) (K : Env → List Leaf → α) (z : α), ZlY p (ls ++ r) K z = K v r
  | [], [], ls, h, r, K, z => by cases h; rfl
  | (o, p) :: q, (o', c) :: v, ls, h, r, K, z => by
    simp only [Zhc] at h
    split at h
    · rename_i e; subst e
      obtain ⟨x, y, h1, h2, rfl⟩ := ZZ h
      simp only [ZlY]
      rw [List.append_assoc, Zcr h1, ZiQ h2]
    · cases h
  | [], _ :: _, ls, h, r, K, z => by cases h
  | _ :: _, [], ls, h, r, K, z => by simp [Zhc] at h
def ZkS {β : Type} (Q : Nat → β → Prop) : List β → Nat → Prop
  | [], _ => True
  | a :: l, i => Q i a ∧ ZkS Q l (i + 1)
theorem ZiR {β : Type} {Q : Nat → β → Prop} : ∀ {l : List β} {k : Nat}, ZkS Q l k → ∀ i a, l[i]? = some a → Q (k + i) a
  | [], k, _, i, a, h => by cases h
  | b :: l, k, hq, 0, a, h => by cases h; exact hq.1
  | b :: l, k, hq, i + 1, a, h => by
    have := ZiR hq.2 i a h
    rwa [Nat.add_right_comm, Nat.add_assoc] at this
theorem Zs {β : Type} {Q : Nat → β → Prop} {l : List β} (h : ZkS Q l 0) (i : Nat) (a : β) (hi : l[i]? = some a) : Q i a := by
  have := ZiR h i a hi
  rwa [Nat.zero_add] at this
structure SPat where
  env : List (Nat × Pat)
  heap : List (Bool × Pat)
  gone : List Nat := []
  m : Nat := 0
def Zb6 (p : SPat) (st : St) : Option (List Leaf) := match st.mvs with
  | [] => if p.gone = st.gone ∧ p.m = st.m then (Zhc p.env st.env).bind fun a => (ZdP p.heap st.heap).map (a ++ ·) else none
  | _ => none
def ZaJ (p : SPat) (ls : List Leaf) (K : St → α) (z : α) : α := ZlY p.env ls (fun env ls => Zjt p.heap ls (fun heap ls => asE ls (K { env := env, heap := heap, mvs := [], gone := p.gone, m := p.m }) z) z) z
theorem Zgd {p : SPat} {st : St} {ls : List Leaf} (h : Zb6 p st = some ls) (K : St → α) (z : α) : ZaJ p ls K z = K st := by
  unfold Zb6 at h
  split at h
  · rename_i hm
    split at h
    · rename_i hg
      obtain ⟨x, y, h1, h2, rfl⟩ := ZZ h
      unfold ZaJ
      rw [ZiQ h1]
      have := Zd4 h2 [] (fun heap ls => asE ls (K { env := st.env, heap := heap, mvs := [], gone := p.gone, m := p.m }) z) z
      rw [List.append_nil] at this
      rw [this]
      obtain ⟨e, hh, m, g, m0⟩ := st
      simp only at hm hg
      obtain ⟨hg1, hg2⟩ := hg
      subst hm hg1 hg2
      rfl
    · cases h
  · cases h
structure Orc where
  ins : List SPat
  outs : List (SX × SPat)
  L : Nat × List Leaf → Option (Nat × List Leaf)
def altK (o : Option (Nat × List Leaf)) (ks : List (List Leaf → α)) (z : α) : α := match o with
  | some (j, r) => match ks[j]? with
    | some k => k r
    | none => z
  | none => z
theorem Zat (ks : List (List Leaf → α)) (z : α) : altK none ks z = z := rfl
theorem Zb7 (j : Nat) (r : List Leaf) (ks : List (List Leaf → α)) (z : α) : altK (some (j, r)) ks z = (match ks[j]? with | some k => k r | none => z) := rfl
theorem Zk (r : List Leaf) (k : List Leaf → α) (ks : List (List Leaf → α)) (z : α) : altK (some (0, r)) (k :: ks) z = k r := rfl
theorem ZF (r : List Leaf) (k k' : List Leaf → α) (ks : List (List Leaf → α)) (z : α) : altK (some (1, r)) (k :: k' :: ks) z = k' r := rfl
theorem Z0 (r : List Leaf) (k k' k2 : List Leaf → α) (ks : List (List Leaf → α)) (z : α) : altK (some (2, r)) (k :: k' :: k2 :: ks) z = k2 r := rfl
theorem Zag (r : List Leaf) (k k' k2 k3 : List Leaf → α) (ks : List (List Leaf → α)) (z : α) : altK (some (3, r)) (k :: k' :: k2 :: k3 :: ks) z = k3 r := rfl
def Zhd : List SPat → St → Nat → (Nat → List Leaf → α) → α → α
  | [], st, i, K, z => z
  | p :: r, st, i, K, z => match Zb6 p st with
    | some ls => K i ls
    | none => Zhd r st (i + 1) K z
def ZU (C : ZS) (a : SC) (o : Orc) : Prop := ∀ (i : Nat) (ls : List Leaf) (j : Nat) (r : List Leaf) (sh : SPat) (st : St), o.L (i, ls) = some (j, r) → o.ins[i]? = some sh → Zb6 sh st = some ls →
  ∃ x st' p, evC C a st = some (x, st') ∧ o.outs[j]? = some (x, p) ∧ Zb6 p st' = some r
theorem ZeS {K : Nat → List Leaf → α} {z : α} : ∀ {l : List SPat} {st : St} {k : Nat}, Zhd l st k K z = z ∨ ∃ i sh ls, l[i]? = some sh ∧ Zb6 sh st = some ls ∧ Zhd l st k K z = K (k + i) ls
  | [], st, k => .inl rfl
  | p :: r, st, k => by
    unfold Zhd
    split
    · rename_i ls h
      exact .inr ⟨0, p, ls, rfl, h, rfl⟩
    · rcases ZeS (l := r) (st := st) (k := k + 1) with e | ⟨i, sh, ls, h1, h2, h3⟩
      · exact .inl e
      · exact .inr ⟨i + 1, sh, ls, by simpa using h1, h2, by rw [h3]; congr 1; omega⟩
def ZV : List (SX × SPat) → Nat → SX × St → Option (Nat × List Leaf)
  | [], _, _ => none
  | p :: r, j, x => if p.1 = x.1 then (if p.2.heap.length = x.2.heap.length then (match Zb6 p.2 x.2 with
      | some ls => some (j, ls)
      | none => ZV r (j + 1) x) else ZV r (j + 1) x) else ZV r (j + 1) x
theorem Zb8 : ∀ {l : List (SX × SPat)} {k : Nat} {x : SX × St} {j : Nat} {ls : List Leaf}, ZV l k x = some (j, ls) → ∃ i p, j = k + i ∧ l[i]? = some (x.1, p) ∧ Zb6 p x.2 = some ls
  | [], k, x, j, ls, h => by cases h
  | p :: r, k, x, j, ls, h => by
    have rest : ZV r (k + 1) x = some (j, ls) → ∃ i p', j = k + i ∧ (p :: r)[i]? = some (x.1, p') ∧ Zb6 p' x.2 = some ls := fun h => by
      obtain ⟨i, q, e, h1, h2⟩ := Zb8 h
      exact ⟨i + 1, q, by omega, by simpa using h1, h2⟩
    unfold ZV at h
    split at h
    · rename_i e
      split at h
      · split at h
        · rename_i ls' hu
          cases h
          exact ⟨0, p.2, rfl, by rw [← e]; rfl, hu⟩
        · exact rest h
      · exact rest h
    · exact rest h
theorem Zbb {CK : CallK} {OK : OrcK} {C : ZS} (hC : Zx CK C) {b : KC} (hO : Zy OK C b) {o : Orc}
    (hf : ∀ (i : Nat) (sh : SPat), o.ins[i]? = some sh → ∀ ls : List Leaf, ZaJ sh ls (fun st => evK CK OK b st (ZV o.outs 0) none) none = o.L (i, ls)) : ZU C b.sc o := by
  intro i ls j r sh st hL hi hu
  have e := hf i sh hi ls
  rw [Zgd hu, hL] at e
  rcases Zde (α := Option (Nat × List Leaf)) hC hO (st := st) (K := ZV o.outs 0) (z := none) with h | ⟨⟨x, st'⟩, h1, h2⟩
  · rw [h] at e; cases e
  · rw [h2] at e
    obtain ⟨i', p, e', h3, h4⟩ := Zb8 e
    rw [Nat.zero_add] at e'
    subst e'
    exact ⟨x, st', p, h1, h3, h4⟩
def Ze4 (m : Nat) (f : Nat × List Leaf → Option (Nat × List Leaf)) : Nat → Nat × List Leaf → Option (Nat × List Leaf)
  | 0, _ => none
  | n + 1, s => match f s with
    | some (j, r) => if j < m then Ze4 m f n (j, r) else some (j - m, r)
    | none => none
def ZbN (m : Nat) (f : Nat × List Leaf → Option (Nat × List Leaf)) (s : Nat × List Leaf) : Option (Nat × List Leaf) := Ze4 m f Zbg s
theorem ZX {CK : CallK} {OK : OrcK} {C : ZS} (hC : Zx CK C) {b : KC} (hO : Zy OK C b) {ins : List SPat} {outs : List (SX × SPat)} {f : Nat × List Leaf → Option (Nat × List Leaf)} (hN : outs.all (fun p => decide (p.1 ≠ .normal)) = true)
    (hf : ∀ (i : Nat) (sh : SPat), ins[i]? = some sh → ∀ ls : List Leaf, ZaJ sh ls (fun st => evK CK OK b st (ZV (ins.map (SX.normal, ·) ++ outs) 0) none) none = f (i, ls)) : ZU C (.loop b.sc) ⟨ins, outs, ZbN ins.length f⟩ := by
  have key : ∀ (n i : Nat) (ls : List Leaf) (j : Nat) (r : List Leaf) (sh : SPat) (st : St), Ze4 ins.length f n (i, ls) = some (j, r) → ins[i]? = some sh → Zb6 sh st = some ls →
      ∃ x st' p, iter (evC C b.sc) n st = some (x, st') ∧ outs[j]? = some (x, p) ∧ Zb6 p st' = some r := by
    intro n
    induction n with
    | zero => intro i ls j r sh st h; cases h
    | succ n ih =>
      intro i ls j r sh st hL hi hu
      have e := hf i sh hi ls
      rw [Zgd hu] at e
      unfold Ze4 at hL
      split at hL
      · rename_i j' r' hstep
        rw [hstep] at e
        rcases Zde (α := Option (Nat × List Leaf)) hC hO (st := st) (K := ZV (ins.map (SX.normal, ·) ++ outs) 0) (z := none) with h | ⟨⟨x, st'⟩, h1, h2⟩
        · rw [h] at e; cases e
        · rw [h2] at e
          obtain ⟨i', p, e', h3, h4⟩ := Zb8 e
          rw [Nat.zero_add] at e'
          subst e'
          unfold iter
          rw [h1]
          split at hL
          · rename_i hlt
            rw [List.getElem?_append_left (by simpa using hlt), List.getElem?_map] at h3
            cases hsh : ins[j']? with
            | none => rw [hsh] at h3; cases h3
            | some sh' =>
              rw [hsh] at h3
              simp only [Option.map_some, Option.some.injEq, Prod.mk.injEq] at h3
              obtain ⟨hx, rfl⟩ := h3
              subst hx
              exact ih j' r' j r sh' st' hL hsh h4
          · rename_i hge
            simp only [Option.some.injEq, Prod.mk.injEq] at hL
            obtain ⟨rfl, rfl⟩ := hL
            rw [List.getElem?_append_right (by simpa using hge), List.length_map] at h3
            have hne : x ≠ .normal := by
              have := List.all_eq_true.1 hN _ (List.mem_of_getElem? h3)
              simpa using this
            refine ⟨x, st', p, ?_, h3, h4⟩
            cases x with
            | normal => exact absurd rfl hne
            | exit i => rfl
            | ret => rfl
      · cases hL
  intro i ls j r sh st hL hi hu
  exact key Zbg i ls j r sh st hL hi hu
structure APat where
  args : List Pat
  rows : List (Bool × Pat)
structure RPat where
  v : Pat
  rows : List (Bool × Pat)
  mv : List Nat
structure Ent where
  ins : List APat
  outs : List RPat
  L : Nat × List Leaf → Option (Nat × List Leaf)
def ZeT (p : APat) (args : List EV) (h : List Row) : Option (List Leaf) := (ZbR p.args args).bind fun a => (ZdP p.rows h).map (a ++ ·)
def Zhe (p : RPat) (x : EV × List Row × List Nat) : Option (List Leaf) := if p.mv = x.2.2 then (ZaH p.v x.1).bind fun a => (ZdP p.rows x.2.1).map (a ++ ·) else none
def Zah (p : APat) (ls : List Leaf) (K : List EV → List Row → α) (z : α) : α := Zhb p.args ls (fun args ls => Zjt p.rows ls (fun h ls => asE ls (K args h) z) z) z
def Zbc (p : RPat) (ls : List Leaf) (K : EV × List Row × List Nat → α) (z : α) : α := ZeR p.v ls (fun v ls => Zjt p.rows ls (fun h ls => asE ls (K (v, h, p.mv)) z) z) z
theorem ZlZ {p : APat} {args : List EV} {h : List Row} {ls : List Leaf} (hu : ZeT p args h = some ls) (K : List EV → List Row → α) (z : α) : Zah p ls K z = K args h := by
  obtain ⟨x, y, h1, h2, rfl⟩ := ZZ hu
  unfold Zah
  rw [Zcs h1]
  have := Zd4 h2 [] (fun h ls => asE ls (K args h) z) z
  rw [List.append_nil] at this
  exact this
theorem Zge {p : RPat} {x : EV × List Row × List Nat} {ls : List Leaf} (hu : Zhe p x = some ls) (K : EV × List Row × List Nat → α) (z : α) : Zbc p ls K z = K x := by
  unfold Zhe at hu
  split at hu
  · rename_i hm
    obtain ⟨a, b, h1, h2, rfl⟩ := ZZ hu
    unfold Zbc
    rw [Zcr h1]
    have := Zd4 h2 [] (fun h ls => asE ls (K (x.1, h, p.mv)) z) z
    rw [List.append_nil] at this
    rw [this, hm]
    rfl
  · cases hu
def Zju : List APat → List EV → List Row → Nat → (Nat → List Leaf → α) → α → α
  | [], args, h, i, K, z => z
  | p :: r, args, h, i, K, z => match ZeT p args h with
    | some ls => K i ls
    | none => Zju r args h (i + 1) K z
theorem Zdv {K : Nat → List Leaf → α} {z : α} : ∀ {l : List APat} {args : List EV} {h : List Row} {k : Nat}, Zju l args h k K z = z ∨ ∃ i sh ls, l[i]? = some sh ∧ ZeT sh args h = some ls ∧ Zju l args h k K z = K (k + i) ls
  | [], args, h, k => .inl rfl
  | p :: r, args, h, k => by
    unfold Zju
    split
    · rename_i ls hu
      exact .inr ⟨0, p, ls, rfl, hu, rfl⟩
    · rcases Zdv (l := r) (args := args) (h := h) (k := k + 1) with e | ⟨i, sh, ls, h1, h2, h3⟩
      · exact .inl e
      · exact .inr ⟨i + 1, sh, ls, by simpa using h1, h2, by rw [h3]; congr 1; omega⟩
def entK (e : Ent) (args : List EV) (h : List Row) (K : EV × List Row × List Nat → α) (z : α) : α :=
  Zju e.ins args h 0 (fun i ls => altK (e.L (i, ls)) (e.outs.map fun p r => Zbc p r K z) z) z
def Zq (C : ZS) (f : FuncId) (e : Ent) : Prop := ∀ (i : Nat) (ls : List Leaf) (j : Nat) (r : List Leaf) (sh : APat) (args : List EV) (h : List Row), e.L (i, ls) = some (j, r) → e.ins[i]? = some sh → ZeT sh args h = some ls →
  ∃ x p, C f args h = some x ∧ e.outs[j]? = some p ∧ Zhe p x = some r
theorem Zm4 {C : ZS} {f : FuncId} {e : Ent} (he : Zq C f e) {args : List EV} {h : List Row} {K : EV × List Row × List Nat → α} {z : α} : ZK (entK e args h K z) (C f args h) K z := by
  unfold entK
  rcases Zdv (l := e.ins) (args := args) (h := h) (k := 0) (K := fun i ls => altK (e.L (i, ls)) (e.outs.map fun p r => Zbc p r K z) z) (z := z) with h0 | ⟨i, sh, ls, h1, h2, h3⟩
  · exact .inl h0
  · rw [h3, Nat.zero_add]
    cases hL : e.L (i, ls) with
    | none => exact .z
    | some p =>
      obtain ⟨j, r⟩ := p
      obtain ⟨x, q, e1, e2, e3⟩ := he i ls j r sh args h hL h1 h2
      refine .inr ⟨x, e1, ?_⟩
      rw [Zb7, List.getElem?_map, e2]
      exact Zge e3 _ _
def ZaS (z : Nat) (x : EV × List Row × List Nat) : Option (Int × Int × ME) := match x.1 with
  | .ints .i64 [a, b] => if x.2.2.contains 0 = false then (match ZdX x.2.1 with
    | some m' => if ZbU z m' = true then some (a, b, m') else none
    | none => none) else none
  | _ => none
def trE (e : Ent) (z : Nat) (m : ME) (as : List EV) : Option (Int × Int × ME) := match ZI as with
  | [] => if noFL as = true then entK e (.ptr 0 0 :: as) (m.map fun p => ⟨p.1, p.2⟩) (ZaS z) none else none
  | _ => none
def trK (o : Option (Int × Int × ME)) (K : Int → Int → ME → α) (z : α) : α := match o with
  | some (a, b, m) => K a b m
  | none => z
theorem ZnI {C : ZS} {f : FuncId} {e : Ent} (he : Zq C f e) {z : Nat} {m : ME} {as : List EV} {K : Int → Int → ME → α} {w : α} : trK (trE e z m as) K w = w ∨ ∃ x y m', ZbA C f z m as = some (.ints .i64 [x, y], m') ∧ trK (trE e z m as) K w = K x y m' := by
  cases h : trE e z m as with
  | none => exact .inl rfl
  | some p =>
    obtain ⟨x, y, m'⟩ := p
    refine .inr ⟨x, y, m', ?_, rfl⟩
    unfold trE at h
    unfold ZbA
    cases hp : ZI as with
    | cons _ _ => rw [hp] at h; cases h
    | nil =>
      rw [hp] at h
      simp only at h ⊢
      split at h
      · rename_i hn
        rw [if_pos hn]
        rcases Zm4 (α := Option (Int × Int × ME)) he (args := .ptr 0 0 :: as) (h := m.map fun p => ⟨p.1, p.2⟩) (K := ZaS z) (z := none) with e0 | ⟨⟨v, rows', mv⟩, h1, h2⟩
        · rw [e0] at h; cases h
        · rw [h2] at h
          simp only [h1]
          unfold ZaS at h
          simp only at h
          split at h
          · rename_i a b
            split at h
            · rename_i hm
              split at h
              · rename_i m2 hr
                split at h
                · rename_i ht
                  simp only [Option.some.injEq, Prod.mk.injEq] at h
                  obtain ⟨rfl, rfl, rfl⟩ := h
                  simp only [ptrs, noF, hm, Bool.not_false, Bool.and_self, if_true, hr, ht]
                · cases h
              · cases h
            · cases h
          · cases h
      · cases h
def ZE : List RPat → Nat → EV × List Row × List Nat → Option (Nat × List Leaf)
  | [], _, _ => none
  | p :: r, j, x => match Zhe p x with
    | some ls => some (j, ls)
    | none => ZE r (j + 1) x
theorem ZdQ : ∀ {l : List RPat} {k : Nat} {x : EV × List Row × List Nat} {j : Nat} {ls : List Leaf}, ZE l k x = some (j, ls) → ∃ i p, j = k + i ∧ l[i]? = some p ∧ Zhe p x = some ls
  | [], k, x, j, ls, h => by cases h
  | p :: r, k, x, j, ls, h => by
    unfold ZE at h
    split at h
    · rename_i ls' hu
      cases h
      exact ⟨0, p, rfl, rfl, hu⟩
    · obtain ⟨i, q, e, h1, h2⟩ := ZdQ h
      exact ⟨i + 1, q, by omega, by simpa using h1, h2⟩
theorem ZC {tab : FuncId → Option SFn} {n : Nat} {CK : CallK} {OK : OrcK} (hC : Zx CK (evF tab n)) {body : KC} (hO : Zy OK (evF tab n) body) {f : FuncId} {fn : SFn} (hf : tab f = some fn) (hb : body.sc = fn.body) {e : Ent}
    (hg : ∀ (i : Nat) (sh : APat), e.ins[i]? = some sh → ∀ ls : List Leaf, Zah sh ls (fun args h => fnK CK OK fn body args h (ZE e.outs 0) none) none = e.L (i, ls)) (hx : fn.ext = none := by rfl) : Zq (evF tab (n + 1)) f e := by
  intro i ls j r sh args h hL hi hu
  have e' := hg i sh hi ls
  rw [ZlZ hu, hL] at e'
  rcases ZnH (α := Option (Nat × List Leaf)) hC hO hf hx hb (args := args) (h := h) (K := ZE e.outs 0) (z := none) with h0 | ⟨x, h1, h2⟩
  · rw [h0] at e'; cases e'
  · rw [h2] at e'
    obtain ⟨i', p, e2, h3, h4⟩ := ZdQ e'
    rw [Nat.zero_add] at e2
    subst e2
    exact ⟨x, p, h1, h3, h4⟩
theorem Zq.mono {C : ZS} {f : FuncId} {ins : List APat} {outs : List RPat} {L L' : Nat × List Leaf → Option (Nat × List Leaf)} (h : Zq C f ⟨ins, outs, L⟩) (hm : ∀ s r, L' s = some r → L s = some r) : Zq C f ⟨ins, outs, L'⟩ :=
  fun i ls j r sh args hh hL hi hu => h i ls j r sh args hh (hm _ _ hL) hi hu
theorem Zq.ret {C : ZS} {f : FuncId} {e : Ent} (h : Zq C f e) {i j : Nat} {ls r : List Leaf} {sh : APat} {p : RPat} {args : List EV} {hh : List Row} {x : EV × List Row × List Nat} (hL : e.L (i, ls) = some (j, r)) (hi : e.ins[i]? = some sh) (hu : ZeT sh args hh = some ls) (hj : e.outs[j]? = some p) (hx : Zbc p r some none = some x) : C f args hh = some x := by
  obtain ⟨y, q, h1, h2, h3⟩ := h i ls j r sh args hh hL hi hu
  rw [hj] at h2
  cases h2
  rw [Zge h3] at hx
  cases hx
  exact h1
end
def asI4 {α : Type} (ls : List Leaf) (k : Int → Int → Int → Int → List Leaf → α) (z : α) : α := asI ls (fun a r => asI r (fun b r => asI r (fun c r => asI r (fun d r => k a b c d r) z) z) z) z
def asI8 {α : Type} (ls : List Leaf) (k : Int → Int → Int → Int → Int → Int → Int → Int → List Leaf → α) (z : α) : α := asI4 ls (fun a b c d r => asI4 r (fun e f g h r => k a b c d e f g h r) z) z
def Ze {α : Type} (ls : List Leaf) (k : Int → Int → Int → Int → Int → Int → Int → Int → Int → Int → Int → Int → Int → Int → Int → Int → List Leaf → α) (z : α) : α := asI8 ls (fun a b c d e f g h r => asI8 r (fun a2 b2 c2 d2 e2 f2 g2 h2 r => k a b c d e f g h a2 b2 c2 d2 e2 f2 g2 h2 r) z) z
abbrev I4 (a b c d : Int) (r : List Leaf) : List Leaf := .i a :: .i b :: .i c :: .i d :: r
abbrev I8 (a b c d e f g h : Int) (r : List Leaf) : List Leaf := .i a :: .i b :: .i c :: .i d :: .i e :: .i f :: .i g :: .i h :: r
abbrev I16 (a b c d e f g h a2 b2 c2 d2 e2 f2 g2 h2 : Int) (r : List Leaf) : List Leaf := .i a :: .i b :: .i c :: .i d :: .i e :: .i f :: .i g :: .i h :: .i a2 :: .i b2 :: .i c2 :: .i d2 :: .i e2 :: .i f2 :: .i g2 :: .i h2 :: r
theorem Zc {α : Type} (a b c d : Int) (r : List Leaf) (k : Int → Int → Int → Int → List Leaf → α) (z : α) : asI4 (.i a :: .i b :: .i c :: .i d :: r) k z = k a b c d r := rfl
theorem Zd {α : Type} (a b c d e f g h : Int) (r : List Leaf) (k : Int → Int → Int → Int → Int → Int → Int → Int → List Leaf → α) (z : α) : asI8 (.i a :: .i b :: .i c :: .i d :: .i e :: .i f :: .i g :: .i h :: r) k z = k a b c d e f g h r := rfl
theorem Zb {α : Type} (a b c d e f g h a2 b2 c2 d2 e2 f2 g2 h2 : Int) (r : List Leaf) (k : Int → Int → Int → Int → Int → Int → Int → Int → Int → Int → Int → Int → Int → Int → Int → Int → List Leaf → α) (z : α) : Ze (.i a :: .i b :: .i c :: .i d :: .i e :: .i f :: .i g :: .i h :: .i a2 :: .i b2 :: .i c2 :: .i d2 :: .i e2 :: .i f2 :: .i g2 :: .i h2 :: r) k z = k a b c d e f g h a2 b2 c2 d2 e2 f2 g2 h2 r := rfl
end Go.Sx
