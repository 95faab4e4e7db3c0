/-
  Regions, code and functions of the abstract machine with continuations. Conditions: none.
-/
import Derived.Test.YthofmhnbncopjaaSxT
namespace Go.Sx
open Go
set_option linter.unusedVariables false

section
variable {α : Type}
/-! ### Values that are laid bare before what follows is run -/
def forceC (c : EV) (K : EV → α) : α := match c with
  | .ints k l => K (.ints k l)
  | .mix ks l => K (.mix ks l)
  | .nest ks l => K (.nest ks l)
  | c => K c
theorem forceC_eq (c : EV) (K : EV → α) : forceC c K = K c := by cases c <;> rfl
def forceK (v : EV) (K : EV → α) : α := match v with
  | .unk => K .unk
  | .bool b => K (.bool b)
  | .int k n => K (.int k n)
  | .str s => K (.str s)
  | .nilp => K .nilp
  | .ptr r o => K (.ptr r o)
  | .nils => K .nils
  | .slice r o n z => K (.slice r o n z)
  | .ints k l => K (.ints k l)
  | .mix ks l => K (.mix ks l)
  | .nest ks l => K (.nest ks l)
  | .ro c n z => forceC c fun c => K (.ro c n z)
  | .rp c o => forceC c fun c => K (.rp c o)
  | .agg l => K (.agg l)
  | .tup l => K (.tup l)
  | .fn f a b => K (.fn f a b)
  | .nilf => K .nilf
theorem forceK_eq (v : EV) (K : EV → α) : forceK v K = K v := by
  cases v <;> try rfl
  · exact forceC_eq _ fun c => K (.ro c _ _)
  · exact forceC_eq _ fun c => K (.rp c _)
def upK : Env → Nat → EV → (Env → α) → α
  | [], _, _, K => K []
  | (s, u) :: r, t, v, K => cond (t == s) (K ((s, v) :: r)) (upK r t v fun r' => K ((s, u) :: r'))
theorem upK_eq : ∀ (e : Env) (t : Nat) (v : EV) (K : Env → α), upK e t v K = K (up e t v)
  | [], _, _, _ => rfl
  | (s, u) :: r, t, v, K => by
    unfold upK up
    cases t == s
    · simp only [cond_false]; rw [upK_eq r t v]
    · rfl
def rowsK : List Row → (List Row → α) → α
  | [], K => K []
  | ⟨o, c⟩ :: r, K => forceK c fun c => rowsK r fun r' => K (⟨o, c⟩ :: r')
theorem rowsK_eq : ∀ (h : List Row) (K : List Row → α), rowsK h K = K h
  | [], _ => rfl
  | ⟨o, c⟩ :: r, K => by unfold rowsK; rw [forceK_eq, rowsK_eq r]
def envK : Env → (Env → α) → α
  | [], K => K []
  | (t, v) :: r, K => forceK v fun v => envK r fun r' => K ((t, v) :: r')
theorem envK_eq : ∀ (h : Env) (K : Env → α), envK h K = K h
  | [], _ => rfl
  | (t, v) :: r, K => by unfold envK; rw [forceK_eq, envK_eq r]

def dstK (st : St) (dst : Option Nat) (v : EV) (K : Env → α) : α := match dst with
  | some d => upK st.env d v K
  | none => K st.env
def effK (st : St) (dst : Option Nat) (e : Eff) (K : St → α) : α :=
  forceK e.v fun v => dstK st dst v fun env' =>
    match e.upd, e.news with
    | [], [] => K { env := env', heap := st.heap, mvs := st.mvs ++ e.mvs, gone := st.gone, m := st.m }
    | _, _ => rowsK (e.upd.foldl setRow st.heap ++ e.news) fun h' => K { env := env', heap := h', mvs := st.mvs ++ e.mvs, gone := st.gone, m := st.m }
theorem effK_eq (st : St) (dst : Option Nat) (e : Eff) (K : St → α) : effK st dst e K = K (applyEff st dst e) := by
  unfold effK applyEff
  rw [forceK_eq]
  have hd : ∀ (K : Env → α), dstK st dst e.v K = K (match dst with | some d => up st.env d e.v | none => st.env) := by
    intro K
    unfold dstK
    split
    · rw [upK_eq]
    · rfl
  rw [hd]
  split
  · rename_i h1 h2
    rw [h1, h2]
    cases dst <;> simp
  · rw [rowsK_eq]
    cases dst <;> rfl

/-! ### Regions -/
variable {CK : CallK} {C : CallF}
theorem up_self : ∀ (e : Env) (t : Nat), up e t (lk e t) = e
  | [], _ => rfl
  | (s, u) :: r, t => by
    unfold up lk
    cases h : t == s
    · simp only [cond_false]; rw [up_self r t]
    · rfl
/-- The state, where of a temporary it is known what it is. -/
def knowK (st : St) (t : Nat) (b : Bool) (K : St → α) : α := upK st.env t (.bool b) fun env => K { env := env, heap := st.heap, mvs := st.mvs, gone := st.gone, m := st.m }
theorem knowK_eq {st : St} {t : Nat} {b : Bool} (h : lk st.env t = .bool b) (K : St → α) : knowK st t b K = K st := by
  unfold knowK
  rw [upK_eq, ← h, up_self]
def stepK (CK : CallK) (base : Nat) (o : SOp) (st : St) (K : Eff → St → α) (z : α) : α :=
  match o.guard with
  | some (g, want) =>
    match lk st.env g with
    | .bool b => match want with
      | true => cond b (knowK st g true fun st => evOpK CK (base + o.slot) o.op (lk st.env) st.heap (fun e => effK st o.dst e (K e)) z) (knowK st g false fun st => effK st o.dst { v := .tup [] } (K { v := .tup [] }))
      | false => cond b (knowK st g true fun st => effK st o.dst { v := .tup [] } (K { v := .tup [] })) (knowK st g false fun st => evOpK CK (base + o.slot) o.op (lk st.env) st.heap (fun e => effK st o.dst e (K e)) z)
    | .tup [] => effK st o.dst { v := .tup [] } (K { v := .tup [] })
    | _ => z
  | none => evOpK CK (base + o.slot) o.op (lk st.env) st.heap (fun e => effK st o.dst e (K e)) z
theorem stepK_ok (hC : CallKOk CK C) {base : Nat} {o : SOp} {st : St} {K : Eff → St → α} {z : α} : Leads (stepK CK base o st K z) (stepEff C base o st) (fun e => K e (applyEff st o.dst e)) z := by
  unfold stepK stepEff
  simp only [effK_eq]
  generalize o.guard = g
  cases g with
  | none => exact evOpK_ok hC
  | some p =>
    obtain ⟨g, want⟩ := p
    simp only
    have hk : ∀ b, lk st.env g = .bool b → ∀ K : St → α, knowK st g b K = K st := fun b h K => knowK_eq h K
    generalize lk st.env g = v at hk
    cases v <;> try exact .z
    · rename_i b
      cases want <;> cases b <;> simp only [cond_true, cond_false, if_true, Bool.false_eq_true, Bool.true_eq_false, if_false] <;> rw [hk _ rfl] <;> first | exact evOpK_ok hC | exact .inr ⟨{ v := .tup [] }, rfl, rfl⟩
    · rename_i l
      cases l <;> first | exact .inr ⟨{ v := .tup [] }, rfl, rfl⟩ | exact .z

def opsK (CK : CallK) (base : Nat) : List SOp → St → (St → α) → α → α
  | [], st, K, z => K st
  | o :: r, st, K, z => stepK CK base o st (fun _ st' => opsK CK base r st' K z) z
theorem opsK_ok (hC : CallKOk CK C) {base : Nat} {K : St → α} {z : α} : ∀ {l : List SOp} {st : St}, Leads (opsK CK base l st K z) (runOps C base l st) K z
  | [], st => .some
  | o :: r, st => by
    unfold opsK runOps stepOp
    rw [Option.bind_map]
    exact .bind (stepK_ok hC) fun e _ => opsK_ok hC
def recK (CK : CallK) (base : Nat) : List SOp → St → (St × List (List Nat) → α) → α → α
  | [], st, K, z => K (st, [])
  | o :: r, st, K, z => stepK CK base o st (fun e st' => recK CK base r st' (fun x => K (x.1, (touchOp base o st ++ List.range' st.heap.length e.news.length) :: x.2)) z) z
theorem recK_ok (hC : CallKOk CK C) {base : Nat} {z : α} : ∀ {l : List SOp} {st : St} {K : St × List (List Nat) → α}, Leads (recK CK base l st K z) (runRec C base l st) K z
  | [], st, K => .some
  | o :: r, st, K => by
    unfold recK runRec
    exact .bind (stepK_ok hC) fun e _ => .map (recK_ok hC)

def finK (r : Reg) (base n : Nat) (st1 : St) (K : St → α) (z : α) : α :=
  cond r.tidy (optK (Sx.tidy base { st1 with env := st1.env.take n }) (fun s => envK s.env fun env => rowsK s.heap fun heap => K { env := env, heap := heap, mvs := s.mvs, gone := s.gone, m := s.m }) z)
    (envK (st1.env.take n) fun env => K { env := env, heap := st1.heap, mvs := st1.mvs, gone := st1.gone, m := st1.m })
def finS (r : Reg) (base n : Nat) (st1 : St) : Option St :=
  if r.tidy then Sx.tidy base { st1 with env := st1.env.take n } else some { st1 with env := st1.env.take n }
theorem finK_ok {r : Reg} {base n : Nat} {st1 : St} {K : St → α} {z : α} : Leads (finK r base n st1 K z) (finS r base n st1) K z := by
  unfold finK finS
  cases r.tidy
  · simp only [cond_false, envK_eq, Bool.false_eq_true, if_false]; exact .some
  · simp only [cond_true, envK_eq, rowsK_eq, if_true]; exact optK_ok
def regK (CK : CallK) (r : Reg) (st : St) (K : St → α) (z : α) : α :=
  envK (st.env ++ r.own.map fun t => (t, .unk)) fun env =>
  rowsK (st.heap ++ List.replicate r.slots ⟨false, .unk⟩) fun heap =>
  match r.pairs with
  | [] => opsK CK st.heap.length r.ops { env := env, heap := heap, mvs := st.mvs, gone := st.gone, m := st.m } (fun st1 => finK r st.heap.length st.env.length st1 K z) z
  | p :: ps => recK CK st.heap.length r.ops { env := env, heap := heap, mvs := st.mvs, gone := st.gone, m := st.m } (fun x => if pairsOk x.2 (p :: ps) = true then finK r st.heap.length st.env.length x.1 K z else z) z
theorem regK_ok (hC : CallKOk CK C) {r : Reg} {st : St} {K : St → α} {z : α} : Leads (regK CK r st K z) (runReg C r st) K z := by
  unfold regK runReg
  rw [envK_eq, rowsK_eq]
  generalize r.pairs = ps
  cases ps with
  | nil => exact .bind (opsK_ok hC) fun b _ => finK_ok (r := r) (base := st.heap.length) (n := st.env.length) (st1 := b)
  | cons p ps =>
    refine .bind (recK_ok hC) fun x _ => .ite fun h => ?_
    simp only [h, if_true]
    exact finK_ok (r := r) (base := st.heap.length) (n := st.env.length) (st1 := x.1)

/-! ### Code -/
/-- Code in which some pieces are told of from outside, by number. -/
inductive KC where
  | skip
  | reg (r : Reg)
  | seq (a b : KC)
  | cond (c : Opd) (a b : KC)
  | block (id : Nat) (a : KC)
  | loop (a : KC)
  | exit (id : Nat)
  | ret
  | kill (l : List Nat)
  | tidy
  | orc (i : Nat) (a : SC)
def KC.sc : KC → SC
  | .skip => .skip
  | .reg r => .reg r
  | .seq a b => .seq a.sc b.sc
  | .cond c a b => .cond c a.sc b.sc
  | .block id a => .block id a.sc
  | .loop a => .loop a.sc
  | .exit id => .exit id
  | .ret => .ret
  | .kill l => .kill l
  | .tidy => .tidy
  | .orc _ a => a
abbrev OrcK := (α : Type) → Nat → St → (SX × St → α) → α → α
def OrcsOk (OK : OrcK) (C : CallF) : KC → Prop
  | .seq a b => OrcsOk OK C a ∧ OrcsOk OK C b
  | .cond _ a b => OrcsOk OK C a ∧ OrcsOk OK C b
  | .block _ a => OrcsOk OK C a
  | .loop a => OrcsOk OK C a
  | .orc i a => ∀ (α : Type) (st : St) (K : SX × St → α) (z : α), Leads (OK α i st K z) (evC C a st) K z
  | _ => True

def iterK (f : St → (SX × St → α) → α → α) : Nat → St → (SX × St → α) → α → α
  | 0, st, K, z => z
  | n + 1, st, K, z => f st (fun x => match x with
    | (.normal, st') => iterK f n st' K z
    | r => K r) z
theorem iterK_ok {f : St → (SX × St → α) → α → α} {g : St → Option (SX × St)} (h : ∀ (st : St) (K : SX × St → α) (z : α), Leads (f st K z) (g st) K z) {K : SX × St → α} {z : α} : ∀ {n : Nat} {st : St}, Leads (iterK f n st K z) (iter g n st) K z
  | 0, st => .z
  | n + 1, st => by
    unfold iterK iter
    rcases h st (fun x => match x with
    | (.normal, st') => iterK f n st' K z
    | r => K r) z with e | ⟨⟨x, st'⟩, e1, e2⟩
    · exact .inl e
    · rw [e2, e1]
      cases x with
      | normal => exact iterK_ok h
      | exit i => exact .some
      | ret => exact .some

/-- The state, where of a test it is known how it went. -/
def testK (c : Opd) (st : St) (b : Bool) (K : St → α) : α := match c with
  | .t n => knowK st n b K
  | .c _ => K st
theorem testK_eq {c : Opd} {st : St} {b : Bool} (h : c.ev (lk st.env) = .bool b) (K : St → α) : testK c st b K = K st := by
  cases c with
  | t n => exact knowK_eq h K
  | c v => rfl
def evK (CK : CallK) (OK : OrcK) : KC → St → (SX × St → α) → α → α
  | .skip, st, K, z => K (.normal, st)
  | .reg r, st, K, z => regK CK r st (fun st' => K (.normal, st')) z
  | .seq a b, st, K, z => evK CK OK a st (fun x => match x with
    | (.normal, st') => evK CK OK b st' K z
    | r => K r) z
  | .cond c a b, st, K, z => match c.ev (lk st.env) with
    | .bool t => _root_.cond t (testK c st true fun st => evK CK OK a st K z) (testK c st false fun st => evK CK OK b st K z)
    | _ => z
  | .block id a, st, K, z => evK CK OK a st (fun x => match x with
    | (.exit i, st') => if i = id then K (.normal, st') else K (.exit i, st')
    | r => K r) z
  | .loop a, st, K, z => iterK (evK CK OK a) loopFuel st K z
  | .exit id, st, K, z => K (.exit id, st)
  | .ret, st, K, z => K (.ret, st)
  | .kill l, st, K, z => envK (killE l st.env) fun env => K (.normal, { env := env, heap := st.heap, mvs := st.mvs, gone := st.gone, m := st.m })
  | .tidy, st, K, z => optK (Sx.tidy st.m st) (fun s => envK s.env fun env => rowsK s.heap fun heap => K (.normal, { env := env, heap := heap, mvs := s.mvs, gone := s.gone, m := s.m })) z
  | .orc i a, st, K, z => OK α i st K z
theorem evK_ok {OK : OrcK} (hC : CallKOk CK C) : ∀ {c : KC} (hO : OrcsOk OK C c) {st : St} {K : SX × St → α} {z : α}, Leads (evK CK OK c st K z) (evC C c.sc st) K z
  | .skip, _, st, K, z => .some
  | .reg r, _, st, K, z => .map (regK_ok hC)
  | .seq a b, hO, st, K, z => by
    unfold evK KC.sc evC
    rcases evK_ok hC hO.1 (st := st) (K := fun x => match x with
    | (.normal, st') => evK CK OK b st' K z
    | r => K r) (z := z) with e | ⟨⟨x, st'⟩, e1, e2⟩
    · exact .inl e
    · rw [e2, e1]
      cases x with
      | normal => exact evK_ok hC hO.2
      | exit i => exact .some
      | ret => exact .some
  | .cond c a b, hO, st, K, z => by
    unfold evK KC.sc evC
    have hk : ∀ t, c.ev (lk st.env) = .bool t → ∀ K : St → α, testK c st t K = K st := fun t h K => testK_eq h K
    generalize c.ev (lk st.env) = v at hk
    cases v <;> try exact .z
    rename_i t
    cases t
    · simp only [cond_false]; rw [hk _ rfl]; exact evK_ok (c := b) hC hO.2
    · simp only [cond_true]; rw [hk _ rfl]; exact evK_ok (c := a) hC hO.1
  | .block id a, hO, st, K, z => by
    unfold evK KC.sc evC
    rcases evK_ok hC hO (c := a) (st := st) (K := fun x => match x with
    | (.exit i, st') => if i = id then K (.normal, st') else K (.exit i, st')
    | r => K r) (z := z) with e | ⟨⟨x, st'⟩, e1, e2⟩
    · exact .inl e
    · rw [e2, e1]
      cases x with
      | normal => exact .some
      | exit i =>
        simp only
        by_cases h : i = id
        · rw [if_pos h, if_pos h]; exact .some
        · rw [if_neg h, if_neg h]; exact .some
      | ret => exact .some
  | .loop a, hO, st, K, z => iterK_ok (f := evK CK OK a) (g := evC C a.sc) fun st K z => evK_ok (c := a) hC hO
  | .exit id, _, st, K, z => .some
  | .ret, _, st, K, z => .some
  | .kill l, _, st, K, z => by
    unfold evK KC.sc evC
    rw [envK_eq]
    exact .some
  | .tidy, _, st, K, z => by
    unfold evK KC.sc evC
    simp only [envK_eq, rowsK_eq]
    exact .map optK_ok
  | .orc i a, hO, st, K, z => hO α st K z

/-! ### Functions -/
def resEvK (st : St) (r : SRes) (K : EV → α) (z : α) : α := match r with
  | .tmp t => K (lk st.env t)
  | .cell t n => match lk st.env t with
    | .ptr r o => match st.heap[r]? with
      | some row => match n with
        | none => cgetK row.c o K z
        | some n => csubK row.c o n K z
      | none => z
    | _ => z
theorem resEvK_ok {st : St} {r : SRes} {K : EV → α} {z : α} : Leads (resEvK st r K z) (resEv st r) K z := by
  unfold resEvK resEv
  cases r with
  | tmp t => exact .some
  | cell t n =>
    simp only
    generalize lk st.env t = v
    cases v <;> try exact .z
    rename_i r o
    simp only
    cases st.heap[r]? <;> try exact .z
    cases n with
    | none => exact cgetK_ok
    | some n => exact csubK_ok
def resAllK (st : St) : List SRes → (List EV → α) → α → α
  | [], K, z => K []
  | r :: l, K, z => resEvK st r (fun v => forceK v fun v => resAllK st l (fun vs => K (v :: vs)) z) z
theorem resAllK_ok {st : St} {z : α} : ∀ {l : List SRes} {K : List EV → α}, Leads (resAllK st l K z) (resAll st l) K z
  | [], K => .some
  | r :: l, K => by
    unfold resAllK resAll
    refine .bind resEvK_ok fun v _ => ?_
    rw [forceK_eq]
    exact .map resAllK_ok
def endK (fn : SFn) (m : Nat) (st : St) (K : EV × List Row × List Nat → α) (z : α) : α :=
  resAllK st fn.res (fun l => optK (leave m st (packRes l)) (fun x => forceK x.1 fun v => rowsK x.2.1 fun h => K (v, h, x.2.2)) z) z
theorem endK_ok {fn : SFn} {m : Nat} {st : St} {K : EV × List Row × List Nat → α} {z : α} : Leads (endK fn m st K z) ((resAll st fn.res).bind fun l => leave m st (packRes l)) K z := by
  unfold endK
  refine .bind resAllK_ok fun l _ => ?_
  simp only [forceK_eq, rowsK_eq]
  exact optK_ok
def fnK (CK : CallK) (OK : OrcK) (fn : SFn) (body : KC) (args : List EV) (h : List Row) (K : EV × List Row × List Nat → α) (z : α) : α :=
  if args.length = fn.np then
    envK (Sx.bind fn args) fun env =>
    evK CK OK body { env := env, heap := h, m := h.length } (fun x => match x with
      | (.normal, st) => endK fn h.length st K z
      | (.ret, st) => endK fn h.length st K z
      | _ => z) z
  else z
theorem fnK_ok {tab : FuncId → Option SFn} {n : Nat} (hC : CallKOk CK (evF tab n)) {OK : OrcK} {body : KC} (hO : OrcsOk OK (evF tab n) body) {f : FuncId} {fn : SFn} (hf : tab f = some fn) (hx : fn.ext = none) (hb : body.sc = fn.body) {args : List EV} {h : List Row} {K : EV × List Row × List Nat → α} {z : α} :
    Leads (fnK CK OK fn body args h K z) (evF tab (n + 1) f args h) K z := by
  unfold fnK
  refine .ite fun hl => ?_
  rw [envK_eq, evF_eq hf hx hl, ← hb]
  rcases evK_ok hC hO (st := { env := Sx.bind fn args, heap := h, m := h.length }) (K := fun x => match x with
      | (.normal, st) => endK fn h.length st K z
      | (.ret, st) => endK fn h.length st K z
      | _ => z) (z := z) with e | ⟨⟨x, st'⟩, e1, e2⟩
  · exact .inl e
  · rw [e2, e1]
    cases x with
    | normal => exact endK_ok
    | exit i => exact .z
    | ret => exact endK_ok
end
end Go.Sx
