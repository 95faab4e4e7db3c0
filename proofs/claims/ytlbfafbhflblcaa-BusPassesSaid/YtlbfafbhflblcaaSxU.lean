/-
  Regions, code and functions of the abstract machine with continuations. Conditions: none.
-/
import Derived.Test.YtlbfafbhflblcaaSxT
namespace Go.Sx
open Go
set_option linter.unusedVariables false
section
variable {α : Type}
def ZkH (c : EV) (K : EV → α) : α := match c with
  | .ints k l => K (.ints k l)
  | .mix ks l => K (.mix ks l)
  | .nest ks l => K (.nest ks l)
  | c => K c
theorem Zg5 (c : EV) (K : EV → α) : ZkH c K = K c := by cases c <;> rfl
def ZkI (v : EV) (K : EV → α) : α := match v with
  | .unk => K .unk
  | .bool b => K (.bool b)
  | .int k n => K (.int k n)
  | .str s => K (.str s)
  | .nilp => K .nilp
  | .ptr r o => K (.ptr r o)
  | .nils => K .nils
  | .slice r o n z => K (.slice r o n z)
  | .ints k l => K (.ints k l)
  | .mix ks l => K (.mix ks l)
  | .nest ks l => K (.nest ks l)
  | .ro c n z => ZkH c fun c => K (.ro c n z)
  | .rp c o => ZkH c fun c => K (.rp c o)
  | .agg l => K (.agg l)
  | .tup l => K (.tup l)
  | .fn f a b => K (.fn f a b)
  | .nilf => K .nilf
  | .tree z els => K (.tree z els)
  | .tp r i => K (.tp r i)
theorem Zg6 (v : EV) (K : EV → α) : ZkI v K = K v := by
  cases v <;> try rfl
  · exact Zg5 _ fun c => K (.ro c _ _)
  · exact Zg5 _ fun c => K (.rp c _)
def ZiL : List EV → (List EV → α) → α
  | [], K => K []
  | v :: r, K => ZkI v fun v => ZiL r fun r => K (v :: r)
theorem Zg7 : ∀ (l : List EV) (K : List EV → α), ZiL l K = K l
  | [], _ => rfl
  | v :: r, K => by unfold ZiL; rw [Zg6, Zg7 r]
def ZeQ (v : EV) (K : EV → α) : α := match v with
  | .agg l => ZiL l fun l => K (.agg l)
  | v => ZkI v K
theorem Zb5 (v : EV) (K : EV → α) : ZeQ v K = K v := by
  unfold ZeQ
  split
  · exact Zg7 _ _
  · exact Zg6 _ _
def upK : Env → Nat → EV → (Env → α) → α
  | [], _, _, K => K []
  | (s, u) :: r, t, v, K => cond (t == s) (K ((s, v) :: r)) (upK r t v fun r' => K ((s, u) :: r'))
theorem ZkJ : ∀ (e : Env) (t : Nat) (v : EV) (K : Env → α), upK e t v K = K (up e t v)
  | [], _, _, _ => rfl
  | (s, u) :: r, t, v, K => by
    unfold upK up
    cases t == s
    · simp only [cond_false]; rw [ZkJ r t v]
    · rfl
def Zg8 : List Row → (List Row → α) → α
  | [], K => K []
  | ⟨o, c⟩ :: r, K => ZeQ c fun c => Zg8 r fun r' => K (⟨o, c⟩ :: r')
theorem Zcp : ∀ (h : List Row) (K : List Row → α), Zg8 h K = K h
  | [], _ => rfl
  | ⟨o, c⟩ :: r, K => by unfold Zg8; rw [Zb5, Zcp r]
def envK : Env → (Env → α) → α
  | [], K => K []
  | (t, v) :: r, K => ZeQ v fun v => envK r fun r' => K ((t, v) :: r')
theorem ZcN : ∀ (h : Env) (K : Env → α), envK h K = K h
  | [], _ => rfl
  | (t, v) :: r, K => by unfold envK; rw [Zb5, ZcN r]
def dstK (st : St) (dst : Option Nat) (v : EV) (K : Env → α) : α := match dst with
  | some d => upK st.env d v K
  | none => K st.env
def effK (st : St) (dst : Option Nat) (e : Eff) (K : St → α) : α :=
  ZeQ e.v fun v => dstK st dst v fun env' =>
    match e.upd, e.news with
    | [], [] => K { env := env', heap := st.heap, mvs := st.mvs ++ e.mvs, gone := st.gone, m := st.m }
    | _, _ => Zg8 (e.upd.foldl setRow st.heap ++ e.news) fun h' => K { env := env', heap := h', mvs := st.mvs ++ e.mvs, gone := st.gone, m := st.m }
theorem Zm1 (st : St) (dst : Option Nat) (e : Eff) (K : St → α) : effK st dst e K = K (Zt st dst e) := by
  unfold effK Zt
  rw [Zb5]
  have hd : ∀ (K : Env → α), dstK st dst e.v K = K (match dst with | some d => up st.env d e.v | none => st.env) := by
    intro K
    unfold dstK
    split
    · rw [ZkJ]
    · rfl
  rw [hd]
  split
  · rename_i h1 h2
    rw [h1, h2]
    cases dst <;> simp
  · rw [Zcp]
    cases dst <;> rfl
variable {CK : CallK} {C : ZS}
theorem ZkK : ∀ (e : Env) (t : Nat), up e t (lk e t) = e
  | [], _ => rfl
  | (s, u) :: r, t => by
    unfold up lk
    cases h : t == s
    · simp only [cond_false]; rw [ZkK r t]
    · rfl
def Zg9 (st : St) (t : Nat) (b : Bool) (K : St → α) : α := upK st.env t (.bool b) fun env => K { env := env, heap := st.heap, mvs := st.mvs, gone := st.gone, m := st.m }
theorem ZiM {st : St} {t : Nat} {b : Bool} (h : lk st.env t = .bool b) (K : St → α) : Zg9 st t b K = K st := by
  unfold Zg9
  rw [ZkJ, ← h, ZkK]
def ZlV (CK : CallK) (base : Nat) (o : SOp) (st : St) (K : Eff → St → α) (z : α) : α :=
  match o.guard with
  | some (g, want) =>
    match lk st.env g with
    | .bool b => match want with
      | true => cond b (Zg9 st g true fun st => Zap CK (base + o.slot) o.op (lk st.env) st.heap (fun e => effK st o.dst e (K e)) z) (Zg9 st g false fun st => effK st o.dst { v := .tup [] } (K { v := .tup [] }))
      | false => cond b (Zg9 st g true fun st => effK st o.dst { v := .tup [] } (K { v := .tup [] })) (Zg9 st g false fun st => Zap CK (base + o.slot) o.op (lk st.env) st.heap (fun e => effK st o.dst e (K e)) z)
    | .tup [] => effK st o.dst { v := .tup [] } (K { v := .tup [] })
    | _ => z
  | none => Zap CK (base + o.slot) o.op (lk st.env) st.heap (fun e => effK st o.dst e (K e)) z
theorem ZiN (hC : Zx CK C) {base : Nat} {o : SOp} {st : St} {K : Eff → St → α} {z : α} : ZK (ZlV CK base o st K z) (Zaj C base o st) (fun e => K e (Zt st o.dst e)) z := by
  unfold ZlV Zaj
  simp only [Zm1]
  generalize o.guard = g
  cases g with
  | none => exact ZiK hC
  | some p =>
    obtain ⟨g, want⟩ := p
    simp only
    have hk : ∀ b, lk st.env g = .bool b → ∀ K : St → α, Zg9 st g b K = K st := fun b h K => ZiM h K
    generalize lk st.env g = v at hk
    cases v <;> try exact .z
    · rename_i b
      cases want <;> cases b <;> simp only [cond_true, cond_false, if_true, Bool.false_eq_true, Bool.true_eq_false, if_false] <;> rw [hk _ rfl] <;> first | exact ZiK hC | exact .inr ⟨{ v := .tup [] }, rfl, rfl⟩
    · rename_i l
      cases l <;> first | exact .inr ⟨{ v := .tup [] }, rfl, rfl⟩ | exact .z
def opsK (CK : CallK) (base : Nat) : List SOp → St → (St → α) → α → α
  | [], st, K, z => K st
  | o :: r, st, K, z => ZlV CK base o st (fun _ st' => opsK CK base r st' K z) z
theorem ZkL (hC : Zx CK C) {base : Nat} {K : St → α} {z : α} : ∀ {l : List SOp} {st : St}, ZK (opsK CK base l st K z) (Zef C base l st) K z
  | [], st => .some
  | o :: r, st => by
    unfold opsK Zef ZjE
    rw [Option.bind_map]
    exact .bind (ZiN hC) fun e _ => ZkL hC
def recK (CK : CallK) (base : Nat) : List SOp → St → (St × List (List Nat) → α) → α → α
  | [], st, K, z => K (st, [])
  | o :: r, st, K, z => ZlV CK base o st (fun e st' => recK CK base r st' (fun x => K (x.1, (Z4 base o st ++ List.range' st.heap.length e.news.length) :: x.2)) z) z
theorem ZkM (hC : Zx CK C) {base : Nat} {z : α} : ∀ {l : List SOp} {st : St} {K : St × List (List Nat) → α}, ZK (recK CK base l st K z) (ZcA C base l st) K z
  | [], st, K => .some
  | o :: r, st, K => by
    unfold recK ZcA
    exact .bind (ZiN hC) fun e _ => .map (ZkM hC)
def finK (r : Reg) (base n : Nat) (st1 : St) (K : St → α) (z : α) : α :=
  cond r.tidy (optK (Sx.tidy base { st1 with env := st1.env.take n }) (fun s => envK s.env fun env => Zg8 s.heap fun heap => K { env := env, heap := heap, mvs := s.mvs, gone := s.gone, m := s.m }) z)
    (envK (st1.env.take n) fun env => K { env := env, heap := st1.heap, mvs := st1.mvs, gone := st1.gone, m := st1.m })
def finS (r : Reg) (base n : Nat) (st1 : St) : Option St :=
  if r.tidy then Sx.tidy base { st1 with env := st1.env.take n } else some { st1 with env := st1.env.take n }
theorem ZkN {r : Reg} {base n : Nat} {st1 : St} {K : St → α} {z : α} : ZK (finK r base n st1 K z) (finS r base n st1) K z := by
  unfold finK finS
  cases r.tidy
  · simp only [cond_false, ZcN, Bool.false_eq_true, if_false]; exact .some
  · simp only [cond_true, ZcN, Zcp, if_true]; exact Zal
def regK (CK : CallK) (r : Reg) (st : St) (K : St → α) (z : α) : α :=
  envK (st.env ++ r.own.map fun t => (t, .unk)) fun env =>
  Zg8 (st.heap ++ List.replicate r.slots ⟨false, .unk⟩) fun heap =>
  match r.pairs with
  | [] => opsK CK st.heap.length r.ops { env := env, heap := heap, mvs := st.mvs, gone := st.gone, m := st.m } (fun st1 => finK r st.heap.length st.env.length st1 K z) z
  | p :: ps => recK CK st.heap.length r.ops { env := env, heap := heap, mvs := st.mvs, gone := st.gone, m := st.m } (fun x => if ZjH x.2 (p :: ps) = true then finK r st.heap.length st.env.length x.1 K z else z) z
theorem Zm2 (hC : Zx CK C) {r : Reg} {st : St} {K : St → α} {z : α} : ZK (regK CK r st K z) (Ze9 C r st) K z := by
  unfold regK Ze9
  rw [ZcN, Zcp]
  generalize r.pairs = ps
  cases ps with
  | nil => exact .bind (ZkL hC) fun b _ => ZkN (r := r) (base := st.heap.length) (n := st.env.length) (st1 := b)
  | cons p ps =>
    refine .bind (ZkM hC) fun x _ => .ite fun h => ?_
    simp only [h, if_true]
    exact ZkN (r := r) (base := st.heap.length) (n := st.env.length) (st1 := x.1)
inductive KC where
  | skip
  | reg (r : Reg)
  | seq (a b : KC)
  | cond (c : Opd) (a b : KC)
  | block (id : Nat) (a : KC)
  | loop (a : KC)
  | exit (id : Nat)
  | ret
  | kill (l : List Nat)
  | tidy
  | orc (i : Nat) (a : SC)
def KC.sc : KC → SC
  | .skip => .skip
  | .reg r => .reg r
  | .seq a b => .seq a.sc b.sc
  | .cond c a b => .cond c a.sc b.sc
  | .block id a => .block id a.sc
  | .loop a => .loop a.sc
  | .exit id => .exit id
  | .ret => .ret
  | .kill l => .kill l
  | .tidy => .tidy
  | .orc _ a => a
abbrev OrcK := (α : Type) → Nat → St → (SX × St → α) → α → α
def Zy (OK : OrcK) (C : ZS) : KC → Prop
  | .seq a b => Zy OK C a ∧ Zy OK C b
  | .cond _ a b => Zy OK C a ∧ Zy OK C b
  | .block _ a => Zy OK C a
  | .loop a => Zy OK C a
  | .orc i a => ∀ (α : Type) (st : St) (K : SX × St → α) (z : α), ZK (OK α i st K z) (evC C a st) K z
  | _ => True
def ZkO (f : St → (SX × St → α) → α → α) : Nat → St → (SX × St → α) → α → α
  | 0, st, K, z => z
  | n + 1, st, K, z => f st (fun x => match x with
    | (.normal, st') => ZkO f n st' K z
    | r => K r) z
theorem ZiO {f : St → (SX × St → α) → α → α} {g : St → Option (SX × St)} (h : ∀ (st : St) (K : SX × St → α) (z : α), ZK (f st K z) (g st) K z) {K : SX × St → α} {z : α} : ∀ {n : Nat} {st : St}, ZK (ZkO f n st K z) (iter g n st) K z
  | 0, st => .z
  | n + 1, st => by
    unfold ZkO iter
    rcases h st (fun x => match x with
    | (.normal, st') => ZkO f n st' K z
    | r => K r) z with e | ⟨⟨x, st'⟩, e1, e2⟩
    · exact .inl e
    · rw [e2, e1]
      cases x with
      | normal => exact ZiO h
      | exit i => exact .some
      | ret => exact .some
def ZlW (c : Opd) (st : St) (b : Bool) (K : St → α) : α := match c with
  | .t n => Zg9 st n b K
  | .c _ => K st
theorem ZlX {c : Opd} {st : St} {b : Bool} (h : c.ev (lk st.env) = .bool b) (K : St → α) : ZlW c st b K = K st := by
  cases c with
  | t n => exact ZiM h K
  | c v => rfl
def evK (CK : CallK) (OK : OrcK) : KC → St → (SX × St → α) → α → α
  | .skip, st, K, z => K (.normal, st)
  | .reg r, st, K, z => regK CK r st (fun st' => K (.normal, st')) z
  | .seq a b, st, K, z => evK CK OK a st (fun x => match x with
    | (.normal, st') => evK CK OK b st' K z
    | r => K r) z
  | .cond c a b, st, K, z => match c.ev (lk st.env) with
    | .bool t => _root_.cond t (ZlW c st true fun st => evK CK OK a st K z) (ZlW c st false fun st => evK CK OK b st K z)
    | _ => z
  | .block id a, st, K, z => evK CK OK a st (fun x => match x with
    | (.exit i, st') => if i = id then K (.normal, st') else K (.exit i, st')
    | r => K r) z
  | .loop a, st, K, z => ZkO (evK CK OK a) Zbg st K z
  | .exit id, st, K, z => K (.exit id, st)
  | .ret, st, K, z => K (.ret, st)
  | .kill l, st, K, z => envK (Zhn l st.env) fun env => K (.normal, { env := env, heap := st.heap, mvs := st.mvs, gone := st.gone, m := st.m })
  | .tidy, st, K, z => optK (Sx.tidy st.m st) (fun s => envK s.env fun env => Zg8 s.heap fun heap => K (.normal, { env := env, heap := heap, mvs := s.mvs, gone := s.gone, m := s.m })) z
  | .orc i a, st, K, z => OK α i st K z
theorem Zde {OK : OrcK} (hC : Zx CK C) : ∀ {c : KC} (hO : Zy OK C c) {st : St} {K : SX × St → α} {z : α}, ZK (evK CK OK c st K z) (evC C c.sc st) K z
  | .skip, _, st, K, z => .some
  | .reg r, _, st, K, z => .map (Zm2 hC)
  | .seq a b, hO, st, K, z => by
    unfold evK KC.sc evC
    rcases Zde hC hO.1 (st := st) (K := fun x => match x with
    | (.normal, st') => evK CK OK b st' K z
    | r => K r) (z := z) with e | ⟨⟨x, st'⟩, e1, e2⟩
    · exact .inl e
    · rw [e2, e1]
      cases x with
      | normal => exact Zde hC hO.2
      | exit i => exact .some
      | ret => exact .some
  | .cond c a b, hO, st, K, z => by
    unfold evK KC.sc evC
    have hk : ∀ t, c.ev (lk st.env) = .bool t → ∀ K : St → α, ZlW c st t K = K st := fun t h K => ZlX h K
    generalize c.ev (lk st.env) = v at hk
    cases v <;> try exact .z
    rename_i t
    cases t
    · simp only [cond_false]; rw [hk _ rfl]; exact Zde (c := b) hC hO.2
    · simp only [cond_true]; rw [hk _ rfl]; exact Zde (c := a) hC hO.1
  | .block id a, hO, st, K, z => by
    unfold evK KC.sc evC
    rcases Zde hC hO (c := a) (st := st) (K := fun x => match x with
    | (.exit i, st') => if i = id then K (.normal, st') else K (.exit i, st')
    | r => K r) (z := z) with e | ⟨⟨x, st'⟩, e1, e2⟩
    · exact .inl e
    · rw [e2, e1]
      cases x with
      | normal => exact .some
      | exit i =>
        simp only
        by_cases h : i = id
        · rw [if_pos h, if_pos h]; exact .some
        · rw [if_neg h, if_neg h]; exact .some
      | ret => exact .some
  | .loop a, hO, st, K, z => ZiO (f := evK CK OK a) (g := evC C a.sc) fun st K z => Zde (c := a) hC hO
  | .exit id, _, st, K, z => .some
  | .ret, _, st, K, z => .some
  | .kill l, _, st, K, z => by
    unfold evK KC.sc evC
    rw [ZcN]
    exact .some
  | .tidy, _, st, K, z => by
    unfold evK KC.sc evC
    simp only [ZcN, Zcp]
    exact .map Zal
  | .orc i a, hO, st, K, z => hO α st K z
def ZkP (st : St) (r : SRes) (K : EV → α) (z : α) : α := match r with
  | .tmp t => K (lk st.env t)
  | .cell t n => match lk st.env t with
    | .ptr r o => match st.heap[r]? with
      | some row => match n with
        | none => Zf4 row.c o K z
        | some n => Ze2 row.c o n K z
      | none => z
    | _ => z
theorem ZkQ {st : St} {r : SRes} {K : EV → α} {z : α} : ZK (ZkP st r K z) (ZjI st r) K z := by
  unfold ZkP ZjI
  cases r with
  | tmp t => exact .some
  | cell t n =>
    simp only
    generalize lk st.env t = v
    cases v <;> try exact .z
    rename_i r o
    simp only
    cases st.heap[r]? <;> try exact .z
    cases n with
    | none => exact ZbM
    | some n => exact Zbk
def Zgc (st : St) : List SRes → (List EV → α) → α → α
  | [], K, z => K []
  | r :: l, K, z => ZkP st r (fun v => ZeQ v fun v => Zgc st l (fun vs => K (v :: vs)) z) z
theorem Zfv {st : St} {z : α} : ∀ {l : List SRes} {K : List EV → α}, ZK (Zgc st l K z) (ZbW st l) K z
  | [], K => .some
  | r :: l, K => by
    unfold Zgc ZbW
    refine .bind ZkQ fun v _ => ?_
    rw [Zb5]
    exact .map Zfv
def endK (fn : SFn) (m : Nat) (st : St) (K : EV × List Row × List Nat → α) (z : α) : α :=
  Zgc st fn.res (fun l => optK (ZfG m st (ZbX l)) (fun x => ZeQ x.1 fun v => Zg8 x.2.1 fun h => K (v, h, x.2.2)) z) z
theorem ZkR {fn : SFn} {m : Nat} {st : St} {K : EV × List Row × List Nat → α} {z : α} : ZK (endK fn m st K z) ((ZbW st fn.res).bind fun l => ZfG m st (ZbX l)) K z := by
  unfold endK
  refine .bind Zfv fun l _ => ?_
  simp only [Zb5, Zcp]
  exact Zal
def fnK (CK : CallK) (OK : OrcK) (fn : SFn) (body : KC) (args : List EV) (h : List Row) (K : EV × List Row × List Nat → α) (z : α) : α :=
  if args.length = fn.np then
    envK (Sx.bind fn args) fun env =>
    evK CK OK body { env := env, heap := h, m := h.length } (fun x => match x with
      | (.normal, st) => endK fn h.length st K z
      | (.ret, st) => endK fn h.length st K z
      | _ => z) z
  else z
theorem ZnH {tab : FuncId → Option SFn} {n : Nat} (hC : Zx CK (evF tab n)) {OK : OrcK} {body : KC} (hO : Zy OK (evF tab n) body) {f : FuncId} {fn : SFn} (hf : tab f = some fn) (hx : fn.ext = none) (hb : body.sc = fn.body) {args : List EV} {h : List Row} {K : EV × List Row × List Nat → α} {z : α} :
    ZK (fnK CK OK fn body args h K z) (evF tab (n + 1) f args h) K z := by
  unfold fnK
  refine .ite fun hl => ?_
  rw [ZcN, ZnD hf hx hl, ← hb]
  rcases Zde hC hO (st := { env := Sx.bind fn args, heap := h, m := h.length }) (K := fun x => match x with
      | (.normal, st) => endK fn h.length st K z
      | (.ret, st) => endK fn h.length st K z
      | _ => z) (z := z) with e | ⟨⟨x, st'⟩, e1, e2⟩
  · exact .inl e
  · rw [e2, e1]
    cases x with
    | normal => exact ZkR
    | exit i => exact .z
    | ret => exact ZkR
end
end Go.Sx
