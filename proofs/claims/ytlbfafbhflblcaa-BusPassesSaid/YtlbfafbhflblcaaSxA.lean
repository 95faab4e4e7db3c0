/-
  A small abstract machine for the pure part of the model's operations: abstract values, abstract operations, and a function that runs them.
  Nothing of the program is named here. Conditions: none.
-/
import Derived.WalkKit
namespace Go.Sx
open Go
set_option linter.unusedVariables false
inductive CK where
  | int (k : IntKind)
  | bool
  | any
  deriving DecidableEq
inductive NK where
  | c (k : CK)
  | si (k : IntKind) (z : Nat)
  | sm (ks : List CK)
  | pt (a z b : Nat)
  deriving DecidableEq
structure NC where
  i : Int
  l : List Int
  deriving DecidableEq
inductive EV where
  | unk
  | bool (b : Bool)
  | int (k : IntKind) (n : Int)
  | str (s : List UInt8)
  | nilp
  | ptr (r off : Nat)
  | nils
  | slice (r off len sz : Nat)
  | ints (k : IntKind) (l : List Int)
  | mix (ks : List CK) (l : List Int)
  | nest (ks : List NK) (l : List NC)
  | ro (c : EV) (n z : Nat)
  | rp (c : EV) (o : Nat)
  | agg (l : List EV)
  | tup (l : List EV)
  | fn (f : FuncId) (first caps : List EV)
  | nilf
  | tree (z : Nat) (els : List (List (Bool × EV)))
  | tp (r i : Nat)
  deriving Inhabited
structure Row where
  own : Bool
  c : EV
  deriving Inhabited
def Z7 (k : IntKind) : List EV → Option (List Int)
  | [] => some []
  | .int k' n :: r => if k = k' then (Z7 k r).map (n :: ·) else none
  | _ :: _ => none
def ZcP : List EV → EV
  | .int k n :: r => match Z7 k r with
    | some l => .ints k (n :: l)
    | none => .agg (.int k n :: r)
  | l => .agg l
def CK.dec : CK → Int → EV
  | .int k, n => .int k n
  | .bool, n => .bool (!decide (n = 0))
  | .any, _ => .unk
def Zad (ks : List CK) (i : Nat) : CK := ks.getD (i % ks.length) .bool
def mixC (ks : List CK) (l : List Int) : List EV := l.mapIdx fun i n => (Zad ks i).dec n
def recC : List CK → List Int → Nat → List EV
  | [], _, _ => []
  | k :: r, l, i => k.dec (l.getD i 0) :: recC r l (i + 1)
def NK.sz : NK → Nat
  | .c _ => 1
  | .si _ z => z
  | .sm ks => ks.length
  | .pt _ _ _ => 1
def ptK (a z b : Nat) : List NK := List.replicate a (.c (.int .i64)) ++ .si .i64 z :: List.replicate b (.c (.int .i64))
def ptL (a b : Nat) (l : List Int) : List NC := ((l.take a).map fun n => ⟨n, []⟩) ++ ⟨0, l.drop (a + b)⟩ :: (((l.drop a).take b).map fun n => ⟨n, []⟩)
def ptE (a b : Nat) (x : List NC) : List Int := (x.take a).map NC.i ++ (((x.drop (a + 1)).take b).map NC.i ++ (x.getD a ⟨0, []⟩).l)
def NK.cont : NK → List Int → EV
  | .c _, _ => .agg []
  | .si k _, x => .ints k x
  | .sm ks, x => .mix ks x
  | .pt _ _ _, _ => .agg []
def many (z : Nat) (x : List Int) : Nat := match z with
  | 1 => x.length
  | z => x.length / z
def NK.dec : NK → NC → EV
  | .c k, x => k.dec x.i
  | .pt a z b, x => if x.i = 0 then .nilp else .rp (.nest (ptK a z b) (ptL a b x.l)) 0
  | k, x => .ro (k.cont x.l) (many k.sz x.l) k.sz
def Z8 (ks : List NK) (i : Nat) : NK := ks.getD (i % ks.length) (.c .any)
def Zhm (ks : List NK) (l : List NC) : List EV := l.mapIdx fun i c => (Z8 ks i).dec c
def recN : List NK → List NC → Nat → List EV
  | [], _, _ => []
  | k :: r, l, i => k.dec (l.getD i ⟨0, []⟩) :: recN r l (i + 1)
def intN : List NK → Option IntKind
  | [] => none
  | .c (.int k) :: r => match r with
    | [] => some k
    | r => match intN r with
      | some k' => if k = k' then some k else none
      | none => none
  | _ :: _ => none
def Zec : List NK → Bool
  | [] => true
  | .c _ :: r => Zec r
  | _ :: _ => false
def recV (ks : List NK) (l : List NC) (i : Nat) : EV := match intN ks with
  | some k => .ints k (((l.drop i).take ks.length).map NC.i)
  | none => match Zec ks with
    | true => .agg (recN ks l i)
    | false => .nest ks ((l.drop i).take ks.length)
def subN (ks : List NK) (l : List NC) (i n : Nat) : Nat → Nat → Option EV
  | 0, _ => none
  | q + 1, f => if i % ks.length = f then some (recV ((ks.drop f).take n) l i) else subN ks l i n q (f + 1)
def encC : List CK → List EV → Option (List Int)
  | [], [] => some []
  | .int k :: r, .int k' n :: x => if k = k' then (encC r x).map (n :: ·) else none
  | .bool :: r, .bool b :: x => (encC r x).map ((cond b 1 0) :: ·)
  | _, _ => none
def ckL : List EV → Option (List CK)
  | [] => some []
  | .int k _ :: r => (ckL r).map (.int k :: ·)
  | .bool _ :: r => (ckL r).map (.bool :: ·)
  | _ :: _ => none
def ZfD (sz : Nat) (v : EV) : EV :=
  match v with
  | .agg l => if l.length = sz then (match l with
    | [] => .agg []
    | e :: r => match ckL (e :: r) with
      | some ks => match encC ks (e :: r) with
        | some x => .mix ks x
        | none => .agg (e :: r)
      | none => .agg (e :: r)) else .agg l
  | v => v
def cells : EV → List EV
  | .ints k l => l.map (.int k)
  | .mix ks l => mixC ks l
  | .nest ks l => Zhm ks l
  | .agg l => l
  | .tree _ _ => []
  | v => [v]
def clen : EV → Nat
  | .ints _ l => l.length
  | .mix _ l => l.length
  | .nest _ l => l.length
  | .agg l => l.length
  | .tree _ _ => 0
  | _ => 1
def isAgg : EV → Bool
  | .ints _ _ => true
  | .mix _ _ => true
  | .nest _ _ => true
  | .agg _ => true
  | _ => false
def Zw : EV → Bool
  | .tree _ _ => true
  | _ => false
def ZM : EV → Bool
  | .unk | .ints _ _ | .mix _ _ | .nest _ _ | .agg _ | .tup _ | .tree _ _ => false
  | _ => true
def ZfE (v : EV) : EV :=
  match v with
  | .ints k l => .ints k l
  | .mix ks l => .mix ks l
  | .nest ks l => .nest ks l
  | .agg l => .agg l
  | .int k n => .ints k [n]
  | v => .agg [v]
def cget (c : EV) (i : Nat) : Option EV :=
  match c with
  | .ints k l => (l[i]?).map (.int k)
  | .mix ks l => (l[i]?).map (Zad ks i).dec
  | .nest ks l => (l[i]?).map (Z8 ks i).dec
  | .agg l => l[i]?
  | _ => none
def csub (c : EV) (i n : Nat) : Option EV :=
  match c with
  | .ints k l => if i + n ≤ l.length then some (.ints k ((l.drop i).take n)) else none
  | .mix ks l => if i + n ≤ l.length then (match ks with
    | [k] => some (.mix [k] ((l.drop i).take n))
    | ks => if n = ks.length then (if i % ks.length = 0 then some (.agg (recC ks l i)) else none) else none) else none
  | .nest ks l => if i + n ≤ l.length then subN ks l i n (ks.length + 1 - n) 0 else none
  | .agg l => if i + n ≤ l.length then some (ZcP ((l.drop i).take n)) else none
  | _ => none
def cput (c : EV) (i : Nat) (v : EV) : Option EV :=
  match c, v with
  | .ints k l, .int k' n => if k = k' then (if i < l.length then some (.ints k (l.set i n)) else none) else none
  | .ints k l, .ints k' x => if k = k' then (if i + x.length ≤ l.length then some (.ints k (l.take i ++ (x ++ l.drop (i + x.length)))) else none) else none
  | .agg l, .ints k x => if i + x.length ≤ l.length then some (.agg (l.take i ++ (x.map (.int k) ++ l.drop (i + x.length)))) else none
  | .mix ks l, .int k n => if Zad ks i = .int k then (if i < l.length then some (.mix ks (l.set i n)) else none) else none
  | .mix ks l, .bool b => if Zad ks i = .bool then (if i < l.length then some (.mix ks (l.set i (cond b 1 0))) else none) else none
  | .nest ks l, .int k n => if Z8 ks i = .c (.int k) then (if i < l.length then some (.nest ks (l.set i ⟨n, []⟩)) else none) else none
  | .nest ks l, .bool b => if Z8 ks i = .c .bool then (if i < l.length then some (.nest ks (l.set i ⟨cond b 1 0, []⟩)) else none) else none
  | .nest ks l, .ro (.ints k x) n z => if Z8 ks i = .si k z then (if i < l.length then (if 0 < z ∧ x.length = n * z then some (.nest ks (l.set i ⟨0, x⟩)) else none) else none) else none
  | .nest _ l, .nest ks x => if i = 0 then (if x.length = l.length then some (.nest ks x) else none) else none
  | .nest _ l, .agg x => if i = 0 then (if x.length = l.length then some (.agg x) else none) else none
  | .agg l, .nest ks x => if i = 0 then (if x.length = l.length then some (.nest ks x) else none) else none
  | .agg l, .agg x => if i + x.length ≤ l.length then some (.agg (l.take i ++ (x ++ l.drop (i + x.length)))) else none
  | .agg l, v => if ZM v && decide (i < l.length) then some (.agg (l.set i v)) else none
  | _, _ => none
def ccat (a b : EV) : Option EV :=
  match a, b with
  | .ints k l, .ints k' x => if k = k' then some (.ints k (l ++ x)) else none
  | .ints k l, .agg [] => some (.ints k l)
  | .agg [], .ints k l => some (.ints k l)
  | .mix ks l, .agg x => match x with
    | [] => some (.mix ks l)
    | x => match encC ks x with
      | some x => if l.length % ks.length = 0 then some (.mix ks (l ++ x)) else none
      | none => none
  | .agg [], .mix ks l => some (.mix ks l)
  | .nest ks l, .agg x => match x with
    | [] => some (.nest ks l)
    | _ => none
  | .nest ks l, .nest ks' x => if ks = ks' then (if l.length % ks.length = 0 then some (.nest ks (l ++ x)) else none) else none
  | .mix ks l, .mix ks' x => if ks = ks' then (if l.length % ks.length = 0 then some (.mix ks (l ++ x)) else none) else none
  | .agg l, .agg x => some (.agg (l ++ x))
  | _, _ => none
def crep (n : Nat) (z : EV) : EV :=
  match z with
  | .ints k l => .ints k ((List.replicate n l).flatten)
  | .mix ks l => .agg ((List.replicate n (mixC ks l)).flatten)
  | .nest ks l => .agg ((List.replicate n (Zhm ks l)).flatten)
  | .agg l => .agg ((List.replicate n l).flatten)
  | .int k v => .ints k (List.replicate n v)
  | v => .agg (List.replicate n v)
mutual
def ptrs : EV → List Nat
  | .ptr r _ => [r]
  | .slice r _ _ _ => [r]
  | .tp r _ => [r]
  | .agg l => ZI l
  | .tup l => ZI l
  | .fn _ a b => ZI a ++ ZI b
  | _ => []
def ZI : List EV → List Nat
  | [] => []
  | e :: l => ptrs e ++ ZI l
end
mutual
def ren (σ : Nat → Option Nat) : EV → EV
  | .ptr r o => match σ r with | some s => .ptr s o | none => .unk
  | .slice r o n z => match σ r with | some s => .slice s o n z | none => .unk
  | .tp r i => match σ r with | some s => .tp s i | none => .unk
  | .agg l => .agg (renL σ l)
  | .tup l => .tup (renL σ l)
  | .fn f a b => .fn f (renL σ a) (renL σ b)
  | v => v
def renL (σ : Nat → Option Nat) : List EV → List EV
  | [] => []
  | e :: l => ren σ e :: renL σ l
end
abbrev Env := List (Nat × EV)
def lk : Env → Nat → EV
  | [], _ => .unk
  | (s, v) :: r, t => bif t == s then v else lk r t
def up : Env → Nat → EV → Env
  | [], _, _ => []
  | (s, u) :: r, t, v => bif t == s then (s, v) :: r else (s, u) :: up r t v
theorem ZbT (t : Nat) : lk [] t = .unk := rfl
theorem ZaT (s : Nat) (v : EV) (r : Env) (t : Nat) : lk ((s, v) :: r) t = if t = s then v else lk r t := by
  by_cases h : t = s
  · simp [lk, h]
  · have hb : (t == s) = false := beq_eq_false_iff_ne.2 h
    simp [lk, h, hb]
theorem Ze6 (t : Nat) (v : EV) : up [] t v = [] := rfl
theorem Zdn (s : Nat) (u : EV) (r : Env) (t : Nat) (v : EV) : up ((s, u) :: r) t v = if t = s then (s, v) :: r else (s, u) :: up r t v := by
  by_cases h : t = s
  · simp [up, h]
  · have hb : (t == s) = false := beq_eq_false_iff_ne.2 h
    simp [up, h, hb]
structure St where
  env : Env
  heap : List Row
  mvs : List (Nat × Nat) := []
  gone : List Nat := []
  m : Nat := 0
inductive Opd where
  | t (n : Nat)
  | c (v : EV)
def Opd.ev (σ : Nat → EV) : Opd → EV
  | .t n => σ n
  | .c v => v
inductive BT where
  | int (k : IntKind)
  | bool
  | str
  | cells (l : List BT)
  | ptr
  | slice
inductive BK where
  | keep
  | nest (ks : List NK)
  | sl (k : IntKind) (z : Nat)
inductive LenOf where
  | str | slice | const (n : Nat)
inductive SO where
  | mv (x : Opd)
  | pick (c a b : Opd)
  | bin (op : BinOp) (ty : BT) (x y : Opd)
  | un (op : UnOp) (x : Opd)
  | conv (k : IntKind) (x : Opd)
  | build (z : EV) (parts : List (Nat × Nat × Opd))
  | field (off : Nat) (n : Option Nat) (x : Opd)
  | fieldAddr (off : Nat) (x : Opd)
  | idxA (len sz : Nat) (x i : Opd)
  | idxS (sz : Nat) (x i : Opd)
  | idxV (len sz : Nat) (ag : Bool) (x i : Opd)
  | idxStr (x i : Opd)
  | extract (x : Opd) (i : Nat)
  | nilck (x : Opd)
  | slStr (x : Opd) (lo hi : Option Opd)
  | slS (sz : Nat) (x : Opd) (lo hi : Option Opd)
  | slA (n sz : Nat) (x : Opd) (lo hi : Option Opd)
  | len (k : LenOf) (x : Opd)
  | mx (isMax : Bool) (l : List Opd)
  | callP (f : FuncId) (args : List Opd)
  | mkfn (f : FuncId) (first caps : List Opd)
  | alloc (z : EV)
  | box (x : Opd)
  | bslice (sz len : Nat) (z : EV) (parts : List (Nat × Nat × Opd))
  | bsliceF (ks : List NK) (sz len : Nat) (z : EV) (parts : List (Nat × Nat × Opd))
  | mkslice (sz bytes : Nat) (z : EV) (n c : Opd)
  | load (n : Option Nat) (a : Opd)
  | store (n : Nat) (a x : Opd)
  | app (sz bytes : Nat) (s x : Opd)
  | copy (sz : Nat) (d s : Opd)
  | toStr (x : Opd)
  | call (f : FuncId) (args : List Opd)
  | callB (f : FuncId) (bs : List BK) (args : List Opd)
  | callv (f : Opd) (args : List Opd)
  | loadT (n : Option Nat) (a : Opd)
  | appT (z bytes : Nat) (s x : Opd)
  | callT (f : FuncId) (z : Nat) (args : List Opd)
structure SOp where
  dst : Option Nat
  op : SO
  guard : Option (Nat × Bool)
  slot : Nat := 0
abbrev oS (d : Nat) (o : SO) : SOp := ⟨some d, o, none, 0⟩
abbrev oM (d t : Nat) : SOp := ⟨some d, .mv (.t t), none, 0⟩
abbrev oG (d : Nat) (o : SO) (t : Nat) (b : Bool) : SOp := ⟨some d, o, some (t, b), 0⟩
def Zgp (op : BinOp) (k : IntKind) (x y : Int) : Option Int :=
  let a := BitVec.ofInt k.bits x
  let b := BitVec.ofInt k.bits y
  match op with
  | .and => some (k.wrap (a &&& b).toNat)
  | .or => some (k.wrap (a ||| b).toNat)
  | .xor => some (k.wrap (a ^^^ b).toNat)
  | .andNot => some (k.wrap (a &&& ~~~b).toNat)
  | _ => none
def Ze7 (op : BinOp) (k : IntKind) (a b : Int) : Option EV :=
  match op with
  | .add => some (.int k (k.wrap (a + b)))
  | .sub => some (.int k (k.wrap (a - b)))
  | .mul => some (.int k (k.wrap (a * b)))
  | .quo => if b = 0 then none else some (.int k (k.wrap (a.tdiv b)))
  | .rem => if b = 0 then none else some (.int k (a.tmod b))
  | .eql => some (.bool (a == b))
  | .neq => some (.bool (a != b))
  | .lss => some (.bool (a < b))
  | .leq => some (.bool (a ≤ b))
  | .gtr => some (.bool (a > b))
  | .geq => some (.bool (a ≥ b))
  | .and | .or | .xor | .andNot => (Zgp op k a b).map (.int k)
  | _ => none
def ZcQ (op : BinOp) (k : IntKind) (a b : Int) : Option EV :=
  if b < 0 then none else
  match op with
  | .shl => some (.int k (k.wrap (a * 2 ^ (min b.toNat k.bits))))
  | .shr => some (.int k (a.fdiv (2 ^ (min b.toNat k.bits))))
  | _ => none
def Zml : BT → EV → EV → Option Bool
  | .int _, .int k a, .int k' b => if k = k' then some (a == b) else none
  | .bool, .bool a, .bool b => some (a == b)
  | .str, .str a, .str b => some (a == b)
  | _, _, _ => none
def Zbn : List BT → List EV → List EV → Option Bool
  | [], [], [] => some true
  | t :: l, a :: x, b :: y => match Zml t a b, Zbn l x y with
    | some p, some q => some (p && q)
    | _, _ => none
  | _, _, _ => none
def BT.isInt : BT → Bool
  | .int _ => true
  | _ => false
def Zgq (l : List BT) (a b : EV) : Option Bool :=
  match a, b with
  | .ints k x, .ints k' y => if k = k' ∧ x.length = l.length ∧ y.length = l.length ∧ l.all BT.isInt = true then some (x == y) else none
  | a, b => if isAgg a && isAgg b then Zbn l (cells a) (cells b) else none
def ZlA : EV → EV → Option Bool
  | .nilp, .nilp => some true
  | .nilp, .ptr _ _ => some false
  | .ptr _ _, .nilp => some false
  | .nilp, .rp _ _ => some false
  | .rp _ _, .nilp => some false
  | .nilp, .tp _ _ => some false
  | .tp _ _, .nilp => some false
  | _, _ => none
def eqSl : EV → EV → Option Bool
  | .nils, .nils => some true
  | .nils, .slice _ _ _ _ => some false
  | .slice _ _ _ _, .nils => some false
  | _, _ => none
def Zed (op : BinOp) (ty : BT) (x y : EV) : Option EV :=
  match x, y with
  | .int k a, .int k' b =>
    match op with
    | .shl | .shr => ZcQ op k a b
    | _ => if k = k' then Ze7 op k a b else none
  | .str a, .str b =>
    match op with
    | .add => if a.length + b.length ≤ 9223372036854775807 then some (.str (a ++ b)) else none
    | .eql => some (.bool (a == b))
    | .neq => some (.bool (a != b))
    | _ => none
  | .bool a, .bool b =>
    match op, ty with
    | .eql, .bool => some (.bool (a == b))
    | .neq, .bool => some (.bool (!(a == b)))
    | _, _ => none
  | x, y =>
    match op, ty with
    | .eql, .cells l => (Zgq l x y).map .bool
    | .neq, .cells l => (Zgq l x y).map fun b => .bool (!b)
    | .eql, .ptr => (ZlA x y).map .bool
    | .neq, .ptr => (ZlA x y).map fun b => .bool (!b)
    | .eql, .slice => (eqSl x y).map .bool
    | .neq, .slice => (eqSl x y).map fun b => .bool (!b)
    | _, _ => none
def unEv (op : UnOp) (x : EV) : Option EV :=
  match op, x with
  | .neg, .int k n => some (.int k (k.wrap (0 - n)))
  | .xor, .int k n => (Zgp .xor k (if k.signed then -1 else k.max) n).map (.int k)
  | .not, .bool b => some (.bool (!b))
  | _, _ => none
def Za2 (c : EV) : List (Nat × Nat × EV) → Option EV
  | [] => some c
  | (off, n, v) :: r => if clen v = n then (cput c off v).bind fun c' => Za2 c' r else none
def Ze0 (i : EV) (len : Nat) : Option Nat :=
  match i with
  | .int _ n => if 0 ≤ n ∧ n < len then some n.toNat else none
  | _ => none
def Zam (x : Option EV) (dflt top : Nat) : Option Nat :=
  match x with
  | none => some dflt
  | some (.int _ n) => if 0 ≤ n ∧ n ≤ top then some n.toNat else none
  | some _ => none
def mx2 (isMax : Bool) (a b : EV) : Option EV :=
  match a, b with
  | .int k x, .int _ y => some (.int k (if isMax then (if y > x then y else x) else (if y < x then y else x)))
  | _, _ => none
def mxL (isMax : Bool) : EV → List EV → Option EV
  | a, [] => some a
  | a, b :: r => (mx2 isMax a b).bind fun c => mxL isMax c r
abbrev ZS := FuncId → List EV → List Row → Option (EV × List Row × List Nat)
structure Eff where
  v : EV
  upd : List (Nat × Row) := []
  news : List Row := []
  mvs : List (Nat × Nat) := []
def Zh2 : EV → Bool
  | .nils => true
  | _ => false
def ZcE : EV → Option (List UInt8)
  | .ints .u8 l => some (l.map fun n => UInt8.ofNat n.toNat)
  | .agg [] => some []
  | _ => none
def Zaa (h : List Row) : Nat → List Nat → List Nat → List Nat
  | 0, _, seen => seen
  | _ + 1, [], seen => seen
  | n + 1, i :: r, seen =>
    if seen.contains i then Zaa h n r seen
    else Zaa h n ((match h[i]? with | some row => ptrs row.c | none => []) ++ r) (seen ++ [i])
def ZB : Nat := 4096
def fresh (h : List Row) (i : Nat) : Bool :=
  match h[i]? with
  | some ⟨false, .unk⟩ => true
  | _ => false
def ZT (ids : List Nat) (i : Nat) : Option Nat := if ids.contains i then some (ids.idxOf i) else none
def ZR (ids mv : List Nat) (L p : Nat) : Option Nat :=
  if p < ids.length then (if mv.contains p then some (L + mv.idxOf p) else some (ids.getD p 0)) else some (L + mv.length + (p - ids.length))
def Zr (σ : Nat → Option Nat) (row : Row) : Row := ⟨row.own, ren σ row.c⟩
def Zo (h : List Row) (i : Nat) : Row := h.getD i ⟨false, .unk⟩
def Za3 (call : ZS) (f : FuncId) (args : List EV) (h : List Row) : Option Eff :=
  let ids := Zaa h ZB (ZI args) []
  if ids.all (fun i => decide (i < h.length) && !fresh h i) then
    match call f (renL (ZT ids) args) (ids.map fun i => Zr (ZT ids) (Zo h i)) with
    | none => none
    | some (r, rows', mv) =>
      let back := ZR ids mv h.length
      some { v := ren back r
             upd := (List.range ids.length).map fun p => (ids.getD p 0, if mv.contains p then ⟨true, .unk⟩ else Zr back (Zo rows' p))
             news := (mv.map fun p => Zr back (Zo rows' p)) ++ (rows'.drop ids.length).map (Zr back)
             mvs := mv.map fun p => (ids.getD p 0, h.length + mv.idxOf p) }
  else none
def Z5 (σ : Nat → EV) (l : List (Nat × Nat × Opd)) : List (Nat × Nat × EV) := l.map fun p => (p.1, p.2.1, p.2.2.ev σ)
def Ze8 (c : EV) (m : Nat) : EV := match c with
  | .ints k l => .ints k (l.take m)
  | .mix ks l => .mix ks (l.take m)
  | .nest ks l => .nest ks (l.take m)
  | c => c
def Zee (h : List Row) (k : NK) (v : EV) : Option NC :=
  match k, v with
  | .c (.int k), .int k' n => if k = k' then some ⟨n, []⟩ else none
  | .c .bool, .bool b => some ⟨cond b 1 0, []⟩
  | .si _ _, .nils => some ⟨0, []⟩
  | .si k z, .slice r o n z' => if z = z' ∧ 0 < z then (match h[r]? with
    | some row => (match row.c with
      | .ints k' l => if k = k' then (if o + n * z ≤ l.length then some ⟨0, (l.drop o).take (n * z)⟩ else none) else none
      | _ => none)
    | none => none) else none
  | .si k z, .ro (.ints k' l) n z' => if k = k' ∧ z = z' ∧ 0 < z then (if n * z ≤ l.length then some ⟨0, l.take (n * z)⟩ else none) else none
  | .pt _ _ _, .nilp => some ⟨0, []⟩
  | .pt a z b, .ptr r o => match h[r]? with
    | some row => (match row.c with
      | .nest ks l => if ks = ptK a z b ∧ o = 0 then (if l.length = a + 1 + b then some ⟨1, ptE a b l⟩ else none) else none
      | _ => none)
    | none => none
  | _, _ => none
def ZaE (h : List Row) : List NK → List EV → Option (List NC)
  | [], [] => some []
  | k :: ks, v :: l => (Zee h k v).bind fun x => (ZaE h ks l).map (x :: ·)
  | _, _ => none
def bArg (h : List Row) (b : BK) (v : EV) : Option EV :=
  match b, v with
  | .keep, v => some v
  | .nest ks, .nest ks' l => if ks = ks' then some (.nest ks l) else none
  | .nest ks, .agg l => (ZaE h ks l).map (.nest ks)
  | .sl k z, v => (Zee h (.si k z) v).map fun x => .ro (.ints k x.l) (many z x.l) z
  | _, _ => none
def ZdV (h : List Row) : List BK → List EV → Option (List EV)
  | [], [] => some []
  | b :: bs, v :: l => (bArg h b v).bind fun x => (ZdV h bs l).map (x :: ·)
  | _, _ => none
mutual
def noF : EV → Bool
  | .nest _ _ | .ro _ _ _ | .rp _ _ | .tree _ _ | .tp _ _ => false
  | .agg l => noFL l
  | .tup l => noFL l
  | .fn _ a b => noFL a && noFL b
  | _ => true
def noFL : List EV → Bool
  | [] => true
  | e :: l => noF e && noFL l
end
def Zcy : List Nat → Bool
  | [] => true
  | x :: l => !l.contains x && Zcy l
def ZaF (h : List Row) (r : Nat) : Bool := match h[r]? with
  | some row => row.own && isAgg row.c
  | none => false
def frzC (h : List Row) (T : List Nat) (ks : List NK) (c : EV) : Option (EV × List Nat) :=
  match c with
  | .agg l => if (Zcy (ZI l) && (ZI l).all fun r => ZaF h r && T.contains r) = true then (ZaE h ks l).map fun x => (.nest ks x, ZI l) else none
  | c => some (c, [])
def Zcz (h : List Row) (ks : List NK) (r : Nat) : Row := match ks with
  | [.pt _ _ _] => ⟨false, (Zo h r).c⟩
  | _ => ⟨true, .unk⟩
def ZcR (h : List Row) (ks : List NK) (at_ len sz : Nat) (x : EV × List Nat) : Eff := { v := .slice at_ 0 len sz, upd := (at_, ⟨true, x.1⟩) :: x.2.map fun r => (r, Zcz h ks r) }
def Zbe (l : List (Nat × Nat × EV)) : List Nat := ZI (l.map fun p => p.2.2)
def Zbf (L i : Nat) : Option Nat := some (L + i)
def Zbz (call : ZS) (f : FuncId) (bs : List BK) (args : List EV) (h : List Row) : Option Eff :=
  match ZdV h bs args with
  | none => none
  | some as => match ZI as with
    | [] => match call f as [] with
      | some (r, rows', []) => if (noF r && rows'.all fun row => row.own && noF row.c) = true then some { v := ren (Zbf h.length) r, news := rows'.map (Zr (Zbf h.length)) } else none
      | _ => none
    | _ => none
def Zac (h : List Row) (ids : List Nat) : List (Bool × EV) := ids.map fun i => ((Zr (ZT ids) (Zo h i)).own, (Zr (ZT ids) (Zo h i)).c)
def ZbU (z : Nat) (m : List (Bool × EV)) : Bool :=
  match m with
  | (o, c) :: r => (match z with
    | 0 => o && isAgg c
    | z => !o && (match c with | .agg l => l.length == z | _ => false)) && r.all (fun p => p.1) && m.all fun p => isAgg p.2 && noF p.2 && (z == 0 || !(ptrs p.2).contains 0)
  | [] => false
def ZdX (h : List Row) : Option (List (Bool × EV)) :=
  match Zaa h ZB [0] [] with
  | 0 :: r => if (0 :: r).all (fun i => decide (i < h.length) && noF (Zo h i).c) = true then some (Zac h (0 :: r)) else none
  | _ => none
def ZbA (call : ZS) (f : FuncId) (z : Nat) (m : List (Bool × EV)) (args : List EV) : Option (EV × List (Bool × EV)) :=
  match ZI args with
  | [] => if noFL args = true then (match call f (.ptr 0 0 :: args) (m.map fun p => ⟨p.1, p.2⟩) with
    | some (v, rows', mv) => (match ptrs v with
      | [] => if (noF v && !mv.contains 0) = true then (match ZdX rows' with
        | some m' => if ZbU z m' = true then some (v, m') else none
        | none => none) else none
      | _ => none)
    | none => none) else none
  | _ => none
def ZbV (h : List Row) (z : Nat) (a : EV) : Option (Nat × List (List (Bool × EV)) × Nat × List (Bool × EV)) :=
  match a with
  | .tp r i => (match h[r]? with
    | some row => (match row.c with
      | .tree z' els => if z = 0 ∧ z' = 0 then (els[i]?).map fun m => (r, els, i, m) else none
      | _ => none)
    | none => none)
  | .ptr r o => (match h[r]? with
    | some row => (match row.c with
      | .tree z' els => if 0 < z ∧ z' = z ∧ o % z = 0 then (els[o / z]?).map fun m => (r, els, o / z, m) else none
      | _ => none)
    | none => none)
  | _ => none
def ZlB (e : Option EV) : EV := match e with
  | some (.int k n) => .int k n
  | _ => .unk
def ZfF (r z : Nat) (els : List (List (Bool × EV))) (o : Nat) (n : Option Nat) : Option EV :=
  match n with
  | none => if z = 0 ∧ o < els.length then some (.tp r o) else none
  | some n => if 0 < z ∧ n = z ∧ o % z = 0 then (match els[o / z]? with
    | some ((_, .agg l) :: _) => some (.agg ((List.range z).map fun j => ZlB l[j]?))
    | _ => none) else none
def Za4 (h : List Row) (z t : Nat) (l : List EV) : Option (List (Bool × EV) × List Nat) :=
  match Zaa h ZB [t] [] with
  | t' :: r => if t' = t ∧ (t :: r).all (fun i => ZaF h i && noF (Zo h i).c) = true then (match z with
    | 0 => (match l, r with
      | [.ptr b 0], b' :: _ => if b = b' then some (Zac h r, r) else none
      | _, _ => none)
    | _ + 1 => (match Zac h (t :: r) with
      | (_, c) :: q => some ((false, c) :: q, r)
      | [] => none)) else none
  | [] => none
def Zax : EV → Nat
  | .slice _ _ n _ => n
  | .ro _ n _ => n
  | _ => 0
def ZaU (h : List Row) (sz k : Nat) (x : EV) : Option EV :=
  match x with
  | .nils => if k = 0 then some (.agg []) else none
  | .slice r o n z => if z = sz ∧ k ≤ n then (match h[r]? with | some row => csub row.c o (k * sz) | none => none) else none
  | .ro c n z => if z = sz ∧ k ≤ n then csub c 0 (k * sz) else none
  | _ => none
def ZcF (h : List Row) (sz : Nat) (x : EV) : Option EV := ZaU h sz (Zax x) x
def evOp (call : ZS) (at_ : Nat) (o : SO) (σ : Nat → EV) (h : List Row) : Option Eff :=
  match o with
  | .mv x => some { v := x.ev σ }
  | .pick c a b => match c.ev σ with
    | .bool true => some { v := a.ev σ }
    | .bool false => some { v := b.ev σ }
    | _ => none
  | .bin op ty x y => (Zed op ty (x.ev σ) (y.ev σ)).map fun v => { v }
  | .un op x => (unEv op (x.ev σ)).map fun v => { v }
  | .conv k x => match x.ev σ with
    | .int _ n => some { v := .int k (k.wrap n) }
    | _ => none
  | .build z ps => (Za2 z (Z5 σ ps)).map fun v => { v }
  | .field off n x => match n with
    | none => if isAgg (x.ev σ) then (cget (x.ev σ) off).map fun v => { v } else none
    | some n => (csub (x.ev σ) off n).map fun v => { v }
  | .fieldAddr off x => match x.ev σ with
    | .ptr r o => some { v := .ptr r (o + off) }
    | .rp c o => some { v := .rp c (o + off) }
    | _ => none
  | .idxA len sz x i => match x.ev σ with
    | .ptr r o => (Ze0 (i.ev σ) len).map fun n => { v := .ptr r (o + n * sz) }
    | .rp c o => (Ze0 (i.ev σ) len).map fun n => { v := .rp c (o + n * sz) }
    | _ => none
  | .idxS sz x i => match x.ev σ with
    | .slice r o len z => if z = sz then (Ze0 (i.ev σ) len).map fun n => { v := .ptr r (o + n * sz) } else none
    | .ro c len z => if z = sz then (Ze0 (i.ev σ) len).map fun n => { v := .rp c (n * sz) } else none
    | _ => none
  | .idxV len sz ag x i => (Ze0 (i.ev σ) len).bind fun n =>
      if ag then (csub (x.ev σ) (n * sz) sz).map fun v => { v } else (cget (x.ev σ) (n * sz)).map fun v => { v }
  | .idxStr x i => match x.ev σ with
    | .str s => (Ze0 (i.ev σ) s.length).bind fun n => (s[n]?).map fun b => { v := .int .u8 b.toNat }
    | _ => none
  | .extract x i => match x.ev σ with
    | .tup l => (l[i]?).map fun v => { v }
    | _ => none
  | .nilck x => match x.ev σ with
    | .ptr r o => some { v := .ptr r o }
    | .rp c o => some { v := .rp c o }
    | _ => none
  | .slStr x lo hi => match x.ev σ with
    | .str s => (Zam (hi.map (·.ev σ)) s.length s.length).bind fun b => (Zam (lo.map (·.ev σ)) 0 b).map fun a => { v := .str ((s.drop a).take (b - a)) }
    | _ => none
  | .slS sz x lo hi => match x.ev σ with
    | .slice r o len z => if z = sz then (Zam (hi.map (·.ev σ)) len len).bind fun b => (Zam (lo.map (·.ev σ)) 0 b).map fun a => { v := .slice r (o + a * sz) (b - a) sz } else none
    | .nils => (Zam (hi.map (·.ev σ)) 0 0).bind fun b => (Zam (lo.map (·.ev σ)) 0 b).map fun _ => { v := .nils }
    | .ro c len z => if z = sz then (Zam (hi.map (·.ev σ)) len len).bind fun b => (Zam (lo.map (·.ev σ)) 0 b).bind fun a => if a = 0 then some { v := .ro (Ze8 c (b * z)) b z } else none else none
    | _ => none
  | .slA n sz x lo hi => match x.ev σ with
    | .ptr r o => (Zam (hi.map (·.ev σ)) n n).bind fun b => (Zam (lo.map (·.ev σ)) 0 b).bind fun a =>
        match h[r]? with
        | some row => if isAgg row.c && decide (o + n * sz ≤ clen row.c) then some { v := .slice r (o + a * sz) (b - a) sz } else none
        | none => none
    | _ => none
  | .len k x => match k, x.ev σ with
    | .const n, _ => some { v := .int .i64 n }
    | .str, .str s => some { v := .int .i64 s.length }
    | .slice, .slice _ _ n _ => some { v := .int .i64 n }
    | .slice, .nils => some { v := .int .i64 0 }
    | .slice, .ro _ n _ => some { v := .int .i64 n }
    | _, _ => none
  | .mx m l => match l.map (·.ev σ) with
    | [] => none
    | a :: r => (mxL m a r).map fun v => { v }
  | .callP f args =>
    match ZI (args.map (·.ev σ)) with
    | [] => match call f (args.map (·.ev σ)) [] with
      | some (v, [], []) => some { v }
      | _ => none
    | _ => none
  | .mkfn f a b => some { v := .fn f (a.map (·.ev σ)) (b.map (·.ev σ)) }
  | .alloc z => if fresh h at_ && isAgg z then some { v := .ptr at_ 0, upd := [(at_, ⟨true, z⟩)] } else none
  | .box x => if fresh h at_ && (isAgg (x.ev σ) || ZM (x.ev σ)) then some { v := .ptr at_ 0, upd := [(at_, ⟨true, ZfE (x.ev σ)⟩)] } else none
  | .bslice sz len z ps => if fresh h at_ then (Za2 (crep len z) (Z5 σ ps)).map fun c => { v := .slice at_ 0 len sz, upd := [(at_, ⟨true, c⟩)] } else none
  | .bsliceF ks sz len z ps => if fresh h at_ then (Za2 (crep len z) (Z5 σ ps)).bind fun c => (frzC h (Zbe (Z5 σ ps)) ks c).map (ZcR h ks at_ len sz) else none
  | .mkslice sz bytes z n c => match n.ev σ, c.ev σ with
    | .int .i64 a, .int .i64 b => if fresh h at_ = true ∧ a = b ∧ 0 ≤ a ∧ bytes * a ≤ 140737488355328 ∧ a ≤ 9223372036854775807 then some { v := .slice at_ 0 a.toNat sz, upd := [(at_, ⟨true, crep a.toNat z⟩)] } else none
    | _, _ => none
  | .load n a => match a.ev σ with
    | .ptr r o => match h[r]? with
      | some row => match n with
        | none => (cget row.c o).map fun v => { v }
        | some n => (csub row.c o n).map fun v => { v }
      | none => none
    | .rp c o => match n with
      | none => (cget c o).map fun v => { v }
      | some n => (csub c o n).map fun v => { v }
    | _ => none
  | .store n a x => match a.ev σ with
    | .ptr r o => match h[r]? with
      | some row => if row.own && clen (x.ev σ) == n then (cput row.c o (x.ev σ)).map fun c => { v := .unk, upd := [(r, ⟨true, c⟩)] } else none
      | none => none
    | _ => none
  | .app sz bytes s x =>
    match s.ev σ with
    | .nils => if Zax (x.ev σ) = 0 then (ZcF h sz (x.ev σ)).map fun _ => { v := .nils }
        else if fresh h at_ = true ∧ Zax (x.ev σ) * bytes ≤ 70368744177664 then
          (ZcF h sz (x.ev σ)).map fun c => { v := .slice at_ 0 (Zax (x.ev σ)) sz, upd := [(at_, ⟨true, ZfD sz c⟩)] }
        else none
    | .slice r o m z => if fresh h at_ = true ∧ z = sz ∧ o = 0 ∧ (m + Zax (x.ev σ)) * bytes ≤ 70368744177664 then
        match h[r]? with
        | some row => if row.own && clen row.c == m * sz then
            ((ZcF h sz (x.ev σ)).bind (ccat row.c)).map fun c => { v := .slice at_ 0 (m + Zax (x.ev σ)) sz, upd := [(r, ⟨true, .unk⟩), (at_, ⟨true, c⟩)], mvs := [(r, at_)] }
          else none
        | none => none
      else none
    | _ => none
  | .copy sz d s =>
    match d.ev σ with
    | .slice r o m z => if z = sz then (if Zh2 (s.ev σ) = true then some { v := .int .i64 0 } else
        match h[r]? with
        | some row => if row.own then (ZaU h sz (min (Zax (s.ev σ)) m) (s.ev σ)).bind fun x => (cput row.c o x).map fun c => { v := .int .i64 (min (Zax (s.ev σ)) m : Nat), upd := [(r, ⟨true, c⟩)] } else none
        | none => none)
      else none
    | .nils => match s.ev σ with
      | .nils => some { v := .int .i64 0 }
      | .slice _ _ _ _ => some { v := .int .i64 0 }
      | .ro _ _ _ => some { v := .int .i64 0 }
      | _ => none
    | _ => none
  | .toStr x => match x.ev σ with
    | .nils => some { v := .str [] }
    | .slice r o n z => match h[r]? with
      | some row => (csub row.c o n).bind fun c => (ZcE c).map fun s => { v := .str s }
      | none => none
    | .ro c n z => (csub c 0 n).bind fun c => (ZcE c).map fun s => { v := .str s }
    | _ => none
  | .call f args => Za3 call f (args.map (·.ev σ)) h
  | .callB f bs args => Zbz call f bs (args.map (·.ev σ)) h
  | .callv g args => match g.ev σ with
    | .fn f a b => Za3 call f (a ++ args.map (·.ev σ) ++ b) h
    | _ => none
  | .loadT n a => match a.ev σ with
    | .ptr r o => match h[r]? with
      | some row => match row.c with
        | .tree z els => (ZfF r z els o n).map fun v => { v }
        | c => match n with
          | none => (cget c o).map fun v => { v }
          | some n => (csub c o n).map fun v => { v }
      | none => none
    | .rp c o => match n with
      | none => (cget c o).map fun v => { v }
      | some n => (csub c o n).map fun v => { v }
    | _ => none
  | .callT f z args => match args.map (·.ev σ) with
    | a :: as => match ZbV h z a with
      | some (r, els, i, m) => (ZbA call f z m as).map fun x => { v := x.1, upd := [(r, ⟨false, .tree z (els.set i x.2)⟩)] }
      | none => none
    | [] => none
  | .appT z bytes s x => match x.ev σ with
    | .slice t 0 1 zz => if fresh h at_ = true ∧ zz = max z 1 then (match h[t]? with
      | some row => (match row.own, row.c with
        | true, .agg l => if l.length = zz then (match Za4 h z t l with
          | some (m, ids) => if ZbU z m = true ∧ ids.contains at_ = false then (match s.ev σ with
            | .nils => if bytes ≤ 70368744177664 then some { v := .slice at_ 0 1 zz, upd := (at_, ⟨false, .tree z [m]⟩) :: (t :: ids).map fun r => (r, ⟨true, .unk⟩) } else none
            | .slice r 0 n zz' => (match h[r]? with
              | some row2 => (match row2.c with
                | .tree z' els => if z' = z ∧ n = els.length ∧ zz' = zz ∧ (n + 1) * bytes ≤ 70368744177664 then
                    some { v := .slice at_ 0 (n + 1) zz, upd := (r, ⟨true, .unk⟩) :: (at_, ⟨false, .tree z (els ++ [m])⟩) :: (t :: ids).map fun r => (r, ⟨true, .unk⟩), mvs := [(r, at_)] } else none
                | _ => none)
              | none => none)
            | _ => none) else none
          | none => none) else none
        | _, _ => none)
      | none => none) else none
    | _ => none
def setRow (h : List Row) (u : Nat × Row) : List Row := h.set u.1 u.2
def Zt (st : St) (dst : Option Nat) (e : Eff) : St :=
  { st with
    env := match dst with | some d => up st.env d e.v | none => st.env
    heap := e.upd.foldl setRow st.heap ++ e.news
    mvs := st.mvs ++ e.mvs }
def Zaj (call : ZS) (base : Nat) (o : SOp) (st : St) : Option Eff :=
  match o.guard with
  | some (g, want) =>
    match lk st.env g with
    | .bool b => if b = want then evOp call (base + o.slot) o.op (lk st.env) st.heap else some { v := .tup [] }
    | .tup [] => some { v := .tup [] }
    | _ => none
  | none => evOp call (base + o.slot) o.op (lk st.env) st.heap
def ZjE (call : ZS) (base : Nat) (o : SOp) (st : St) : Option St := (Zaj call base o st).map (Zt st o.dst)
def Zef (call : ZS) (base : Nat) : List SOp → St → Option St
  | [], st => some st
  | o :: r, st => (ZjE call base o st).bind (Zef call base r)
def Znj (mvs : List (Nat × Nat)) (r : Nat) : Nat := mvs.foldl (fun r m => if m.1 = r then m.2 else r) r
def ZjF (base : Nat) (mvs : List (Nat × Nat)) : List (Nat × Nat) := ((mvs.map (·.1)).filter (· < base)).map fun r => (Znj mvs r, r)
def Zeg (base : Nat) (curr : List (Nat × Nat)) (live : List Nat) (i : Nat) : Nat :=
  if i < base then (match curr.find? (fun p => p.2 == i) with | some p => p.1 | none => i) else live.getD (i - base) (i + live.length)
def toOf (base : Nat) (curr : List (Nat × Nat)) (live : List Nat) (i : Nat) : Option Nat :=
  if i < base then (if (curr.map (·.2)).contains i then none else some i)
  else match curr.find? (fun p => p.1 == i) with
    | some p => some p.2
    | none => if live.contains i then some (base + live.idxOf i) else none
def Znk (row : Row) : Bool := match row.c with
  | .unk => false
  | _ => true
def tidy (base : Nat) (st : St) : Option St :=
  let curr := ZjF base st.mvs
  if Zcy (curr.map (·.1)) && Zcy (curr.map (·.2)) && (curr.map (·.1)).all (fun i => decide (base ≤ i)) && decide (base ≤ st.heap.length) then
    let roots := ZI (st.env.map (·.2)) ++ ((st.heap.take base).flatMap fun row => ptrs row.c) ++ curr.map (·.1)
    let live := (Zaa st.heap ZB roots []).filter fun i => decide (base ≤ i) && !(curr.map (·.1)).contains i && Znk (Zo st.heap i)
    let get (i : Nat) : Row := Zr (toOf base curr live) (Zo st.heap (Zeg base curr live i))
    some { env := st.env.map fun p => (p.1, ren (toOf base curr live) p.2)
           heap := (List.range (base + live.length)).map get
           mvs := []
           gone := st.gone ++ (curr.map (·.2)).filter (fun i => decide (i < st.m) && !st.gone.contains i)
           m := st.m }
  else none
structure Reg where
  ops : List SOp
  own : List Nat
  slots : Nat
  tidy : Bool
  pairs : List (Nat × Nat) := []
def Zcu (at_ : Nat) (o : SO) (σ : Nat → EV) (h : List Row) : List Nat :=
  match o with
  | .slA _ _ x _ _ => ptrs (x.ev σ)
  | .load _ a => ptrs (a.ev σ)
  | .store _ a _ => ptrs (a.ev σ)
  | .alloc _ | .box _ | .bslice .. | .mkslice .. => [at_]
  | .bsliceF _ _ _ _ ps => at_ :: Zbe (Z5 σ ps)
  | .app _ _ s x => at_ :: (ptrs (s.ev σ) ++ ptrs (x.ev σ))
  | .copy _ d s => ptrs (d.ev σ) ++ ptrs (s.ev σ)
  | .toStr x => ptrs (x.ev σ)
  | .call _ args => Zaa h ZB (ZI (args.map (·.ev σ))) []
  | .callB _ _ args => ZI (args.map (·.ev σ))
  | .callv g args => match g.ev σ with
    | .fn _ a b => Zaa h ZB (ZI (a ++ args.map (·.ev σ) ++ b)) []
    | _ => []
  | .loadT _ a => ptrs (a.ev σ)
  | .callT _ _ args => ZI (args.map (·.ev σ))
  | .appT _ _ s x => at_ :: (ptrs (s.ev σ) ++ Zaa h ZB (ptrs (x.ev σ)) [])
  | _ => []
def Z4 (base : Nat) (o : SOp) (st : St) : List Nat :=
  match o.guard with
  | some (g, want) => match lk st.env g with
    | .bool b => if b = want then Zcu (base + o.slot) o.op (lk st.env) st.heap else []
    | _ => []
  | none => Zcu (base + o.slot) o.op (lk st.env) st.heap
def ZcA (call : ZS) (base : Nat) : List SOp → St → Option (St × List (List Nat))
  | [], st => some (st, [])
  | o :: r, st => (Zaj call base o st).bind fun e =>
      (ZcA call base r (Zt st o.dst e)).map fun x => (x.1, (Z4 base o st ++ List.range' st.heap.length e.news.length) :: x.2)
def ZjG (a b : List Nat) : Bool := a.all fun x => !b.contains x
def ZjH (recs : List (List Nat)) (pairs : List (Nat × Nat)) : Bool := pairs.all fun p => ZjG (recs.getD p.1 []) (recs.getD p.2 [])
def Ze9 (call : ZS) (r : Reg) (st : St) : Option St :=
  let base := st.heap.length
  let n := st.env.length
  let st0 : St := { st with env := st.env ++ r.own.map fun t => (t, .unk), heap := st.heap ++ List.replicate r.slots ⟨false, .unk⟩ }
  let fin (st1 : St) : Option St :=
    let st2 : St := { st1 with env := st1.env.take n }
    if r.tidy then Sx.tidy base st2 else some st2
  match r.pairs with
  | [] => (Zef call base r.ops st0).bind fin
  | ps => (ZcA call base r.ops st0).bind fun x => if ZjH x.2 ps then fin x.1 else none
inductive SC where
  | skip
  | reg (r : Reg)
  | seq (a b : SC)
  | cond (c : Opd) (a b : SC)
  | block (id : Nat) (a : SC)
  | loop (a : SC)
  | exit (id : Nat)
  | ret
  | kill (l : List Nat)
  | tidy
inductive SX where
  | normal | exit (id : Nat) | ret
  deriving DecidableEq
def iter (f : St → Option (SX × St)) : Nat → St → Option (SX × St)
  | 0, _ => none
  | n + 1, st => match f st with
    | some (.normal, st') => iter f n st'
    | r => r
def Zbg : Nat := 36893488147419103232
def Zhn (D : List Nat) : Env → Env
  | [] => []
  | (t, v) :: r => (t, bif D.contains t then .unk else v) :: Zhn D r
def evC (call : ZS) : SC → St → Option (SX × St)
  | .skip, st => some (.normal, st)
  | .reg r, st => (Ze9 call r st).map fun st' => (.normal, st')
  | .seq a b, st => match evC call a st with
    | some (.normal, st') => evC call b st'
    | r => r
  | .cond c a b, st => match c.ev (lk st.env) with
    | .bool true => evC call a st
    | .bool false => evC call b st
    | _ => none
  | .block id a, st => match evC call a st with
    | some (.exit i, st') => if i = id then some (.normal, st') else some (.exit i, st')
    | r => r
  | .loop a, st => iter (evC call a) Zbg st
  | .exit id, st => some (.exit id, st)
  | .ret, st => some (.ret, st)
  | .kill D, st => some (.normal, { st with env := Zhn D st.env })
  | .tidy, st => (Sx.tidy st.m st).map fun st' => (.normal, st')
inductive SRes where
  | tmp (t : Nat)
  | cell (t : Nat) (n : Option Nat)
def yld : Nat := 1099511627776
structure SFn where
  np : Nat
  vars : List Nat
  body : SC
  res : List SRes
  ext : Option (ZS → List EV → Option EV) := none
def ZjI (st : St) : SRes → Option EV
  | .tmp t => some (lk st.env t)
  | .cell t n => match lk st.env t with
    | .ptr r o => match st.heap[r]? with
      | some row => match n with
        | none => cget row.c o
        | some n => csub row.c o n
      | none => none
    | _ => none
def ZbW (st : St) : List SRes → Option (List EV)
  | [] => some []
  | r :: l => (ZjI st r).bind fun v => (ZbW st l).map (v :: ·)
def ZbX : List EV → EV
  | [v] => v
  | l => .tup l
def bind (fn : SFn) (args : List EV) : Env := fn.vars.map fun t => (t, if t < fn.np then args.getD t .unk else .unk)
def ZfG (m : Nat) (st : St) (v : EV) : Option (EV × List Row × List Nat) :=
  (tidy m { env := [(0, v)], heap := st.heap, mvs := [], gone := st.gone.filter (· < m), m := m }).bind fun st' =>
    if Zcy st'.gone && st'.gone.all (fun i => decide (i < m) && (match st'.heap[i]? with | some row => row.own || Zw row.c | none => false)) && (st'.heap.drop m).all (fun row => row.own || Zw row.c) then some (lk st'.env 0, st'.heap, st'.gone) else none
def evF (tab : FuncId → Option SFn) : Nat → ZS
  | 0 => fun _ _ _ => none
  | n + 1 => fun f args h =>
    match tab f with
    | none => none
    | some fn =>
      match fn.ext with
      | some g => (g (evF tab n) args).bind fun r => match ZI args, ptrs r with
        | [], [] => some (r, h, [])
        | _, _ => none
      | none =>
        if args.length = fn.np then
          match evC (evF tab n) fn.body { env := bind fn args, heap := h, m := h.length } with
          | some (.normal, st) | some (.ret, st) => (ZbW st fn.res).bind fun l => ZfG h.length st (ZbX l)
          | _ => none
        else none
end Go.Sx
