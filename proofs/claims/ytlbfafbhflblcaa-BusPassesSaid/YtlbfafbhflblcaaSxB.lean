/-
  From the model's code to the abstract machine's: 'cFn P f' is function f's abstract form, where every operation of it is one that the abstract machine has.
  Conditions: none.
-/
import Derived.Test.YtlbfafbhflblcaaSxA
namespace Go.Sx
open Go
set_option linter.unusedVariables false
def ofV1 : Value → Option EV
  | .bool b => some (.bool b)
  | .int k n => some (.int k n)
  | .string s => some (.str s.data.toList)
  | .pointer none => some .nilp
  | .slice none 0 0 => some .nils
  | .nilFunc => some .nilf
  | _ => none
def ofVL : List Value → Option (List EV)
  | [] => some []
  | v :: l => match ofV1 v, ofVL l with
    | some e, some r => some (e :: r)
    | _, _ => none
def ofV : Value → Option EV
  | .agg cs => (ofVL cs.toList).map ZcP
  | v => ofV1 v
def cOpd : Operand → Option Opd
  | .tmp t => some (.t t)
  | .const v => (ofV v).map .c
  | .func f => if f < yld then some (.c (.fn f [] [])) else none
  | .global _ => none
def ZaZ : List Operand → Option (List Opd)
  | [] => some []
  | x :: l => match cOpd x, ZaZ l with
    | some a, some r => some (a :: r)
    | _, _ => none
def Zeh : Option Operand → Option (Option Opd)
  | none => some none
  | some x => (cOpd x).map some
def aggT (P : Program) (t : TypeId) : Option Bool :=
  match P.underlying t with
  | some (.struct _) => some true
  | some (.array _ _) => some true
  | some _ => some false
  | none => none
def ZP (P : Program) (t : TypeId) : Option Nat := (P.info? t).map (·.size)
def ZbY (P : Program) (t : TypeId) : Option (Option Nat) :=
  match aggT P t, ZP P t with
  | some true, some n => some (some n)
  | some false, some _ => some none
  | _, _ => none
def ZcS (P : Program) (t : TypeId) : Option EV := ((P.info? t).bind (·.zero)).bind ofV
def ZfH (P : Program) (t : TypeId) : Option EV := ((P.info? t).bind (·.zero)).bind fun z => (ofVL z.cells.toList).map ZcP
def Zh3 (P : Program) (t : TypeId) : Bool :=
  match P.underlying t with
  | some (.struct fs) => fs.toList.all fun f => (ZP P f.type).isSome
  | some (.array _ e) => (ZP P e).isSome
  | _ => true
def Zh4 (P : Program) : Nat → TypeId → Bool
  | 0, _ => false
  | d + 1, t => match P.underlying t with
    | some .bool => true
    | some (.int _) => true
    | some .string => true
    | some (.struct fs) => fs.toList.all fun f => Zh4 P d f.type
    | some (.array _ e) => Zh4 P d e
    | _ => false
def eqGo (rec_ : TypeId → Option (List BT)) (off : Nat) : List Field → Option (List BT)
  | [] => some []
  | f :: r => match rec_ f.type with
    | some x => if f.offset = off && f.name != "_" then (eqGo rec_ (off + x.length) r).map (x ++ ·) else none
    | none => none
def Zho (P : Program) (rec_ : TypeId → Option (List BT)) (t : TypeId) : Option (List BT) :=
  match P.underlying t with
  | some .bool => some [.bool]
  | some (.int k) => some [.int k]
  | some .string => some [.str]
  | some (.struct fs) => if P.stoodInHeld t then none else eqGo rec_ 0 fs.toList
  | some (.array n e) => (rec_ e).map fun x => (List.replicate n x).flatten
  | _ => none
def eqT (P : Program) : Nat → TypeId → Option (List BT)
  | 0, _ => none
  | d + 1, t => match Zho P (eqT P d) t with
    | some l => if ZP P t = some l.length then some l else none
    | none => none
def btT (P : Program) (t : TypeId) : Option BT :=
  match P.underlying t with
  | some .bool => some .bool
  | some (.int k) => some (.int k)
  | some .string => some .str
  | some (.pointer _) => some .ptr
  | some (.slice _) => some .slice
  | some (.struct _) => if P.eqGuardType P.depth t then none else (eqT P 8 t).map .cells
  | some (.array _ _) => if P.eqGuardType P.depth t then none else (eqT P 8 t).map .cells
  | _ => none
def ZcB (P : Program) (t : TypeId) : List (Nat × Operand) → Option (List (Nat × Nat × Opd))
  | [] => some []
  | (i, x) :: l =>
    match cOpd x, ZcB P t l, P.underlying t with
    | some a, some r, some (.struct fs) => match fs[i]? with
      | some f => (ZP P f.type).map fun s => (f.offset, s, a) :: r
      | none => none
    | some a, some r, some (.array _ e) => (ZP P e).map fun s => (i * s, s, a) :: r
    | some a, some r, some (.slice e) => (ZP P e).map fun s => (i * s, s, a) :: r
    | _, _, _ => none
def ZjJ : List String := ["calliope/frame.Right", "calliope/frame.rightTones", "calliope/calliopelaw10.right", "calliope/frame.Bits", "calliope/calliopelaw10.many", "calliope/frame.Bytes", "calliope/calliopelaw10.bytes", "calliope/calliopelaw10.same", "calliope/frame.Same", "calliope/frame.Spectrum", "calliope/frame.Read", "calliope/veil.Of"]
def ckB : BT → Option CK
  | .int k => some (.int k)
  | .bool => some .bool
  | _ => none
def ckBL : List BT → Option (List CK)
  | [] => some []
  | b :: r => match ckB b, ckBL r with
    | some c, some l => some (c :: l)
    | _, _ => none
def oneK : List CK → Option IntKind
  | [] => none
  | .int k :: r => match r with
    | [] => some k
    | r => match oneK r with
      | some k' => if k = k' then some k else none
      | none => none
  | _ :: _ => none
def slNK (l : List CK) : NK := match oneK l with
  | some k => .si k l.length
  | none => .sm l
def nkT (P : Program) (t : TypeId) : Option (List NK) :=
  match P.underlying t with
  | some (.slice e) => ((eqT P 8 e).bind ckBL).map fun l => [slNK l]
  | _ => ((eqT P 8 t).bind ckBL).map fun l => l.map NK.c
def nkFs (P : Program) : List Field → Option (List NK)
  | [] => some []
  | f :: r => match nkT P f.type, nkFs P r with
    | some a, some b => some (a ++ b)
    | _, _ => none
def bkT (P : Program) (t : TypeId) : BK :=
  match P.underlying t with
  | some (.slice _) => match nkT P t with
    | some [.si k z] => .sl k z
    | _ => .keep
  | some (.struct fs) => match nkFs P fs.toList with
    | some ks => if Zec ks then .keep else .nest ks
    | none => .keep
  | _ => .keep
def frzT (P : Program) (n : Nat) (e : TypeId) : Option (List NK) := if n = 1 then (match P.underlying e with
  | some (.struct fs) => (nkFs P fs.toList).bind fun ks => if Zec ks then none else some ks
  | some (.pointer _) => none
  | _ => (nkT P e).bind fun ks => if Zec ks then none else some ks) else none
def Zhp (P : Program) (c : Call) : Option SO :=
  match ZaZ c.args.toList with
  | none => none
  | some args =>
    match c.callee with
    | .value (.func f) =>
      match P.funcs[f]? with
      | some fn =>
        if fn.name == "runtime.NumGoroutine" || fn.body.isNone then none
        else if fn.params.toList.all (Zh4 P 8) && fn.resultTypes.toList.all (Zh4 P 8) then some (.callP f args)
        else if ZjJ.contains fn.name then some (.callB f (fn.params.toList.map (bkT P)) args)
        else some (.call f args)
      | none => none
    | .value g => (cOpd g).map fun g => .callv g args
    | .invoke _ _ => none
    | .builtin b =>
      match b, args with
      | .len, [x] => match (c.argTypes[0]?).bind P.underlying with
        | some .string => some (.len .str x)
        | some (.slice _) => some (.len .slice x)
        | some (.array n _) => some (.len (.const n) x)
        | _ => none
      | .append, [s, x] => match c.argTypes.toList with
        | [t, t'] => if t = t' then match P.underlying t with
          | some (.slice e) => match P.info? e, ZcS P e with
            | some i, some z => if 0 < i.size && 0 < i.bytes && clen z == i.size then some (.app i.size i.bytes s x) else none
            | _, _ => none
          | _ => none
          else none
        | _ => none
      | .copy, [d, s] => match c.argTypes.toList with
        | [t, t'] => match P.underlying t, P.underlying t' with
          | some (.slice e), some (.slice _) => match ZP P e with
            | some (z + 1) => some (.copy (z + 1) d s)
            | _ => none
          | _, _ => none
        | _ => none
      | .max, l => some (.mx true l)
      | .min, l => some (.mx false l)
      | _, _ => none
def cOp0 (P : Program) : Op → Option SO
  | .move x | .assign x => (cOpd x).map .mv
  | .pick c a b => match cOpd c, cOpd a, cOpd b with
    | some c, some a, some b => some (.pick c a b)
    | _, _, _ => none
  | .binOp op t x y _ => match btT P t, cOpd x, cOpd y with
    | some ty, some x, some y => some (.bin op ty x y)
    | _, _, _ => none
  | .unOp op _ x => (cOpd x).map (.un op)
  | .convert s d x => match P.underlying s, P.underlying d, cOpd x with
    | some (.int _), some (.int k), some x => some (.conv k x)
    | some (.slice e), some .string, some x => match P.underlying e with
      | some (.int .u8) => some (.toStr x)
      | _ => none
    | _, _, _ => none
  | .build t ps => match ZcS P t, ZcB P t ps.toList with
    | some z, some ps => if isAgg z && Zh3 P t && aggT P t == some true then some (.build z ps) else none
    | _, _ => none
  | .field t x i => match P.underlying t, cOpd x with
    | some (.struct fs), some x => match fs[i]? with
      | some f => (ZbY P f.type).map fun n => .field f.offset n x
      | none => none
    | _, _ => none
  | .fieldAddr t x i => match P.underlying t, cOpd x with
    | some (.struct fs), some x => match fs[i]? with
      | some f => match ZP P f.type with
        | some (_ + 1) => some (.fieldAddr f.offset x)
        | _ => none
      | none => none
    | _, _ => none
  | .indexAddr t x i => match P.underlying t, cOpd x, cOpd i with
    | some (.array n e), some x, some i => (ZP P e).map fun z => .idxA n z x i
    | some (.slice e), some x, some i => (ZP P e).map fun z => .idxS z x i
    | _, _, _ => none
  | .index t x i => match P.underlying t, cOpd x, cOpd i with
    | some (.array n e), some x, some i => match aggT P e, ZP P e with
      | some b, some z => some (.idxV n z b x i)
      | _, _ => none
    | some .string, some x, some i => some (.idxStr x i)
    | _, _, _ => none
  | .extract x i => (cOpd x).map fun x => .extract x i
  | .nilCheck x => (cOpd x).map .nilck
  | .slice t x lo hi mx => match P.underlying t, cOpd x, Zeh lo, Zeh hi, mx with
    | some .string, some x, some lo, some hi, none => some (.slStr x lo hi)
    | some (.slice e), some x, some lo, some hi, none => (ZP P e).map fun z => .slS z x lo hi
    | some (.array n e), some x, some lo, some hi, none => (ZP P e).map fun z => .slA n z x lo hi
    | _, _, _, _, _ => none
  | .alloc t => (ZfH P t).map .alloc
  | .box _ x => (cOpd x).map .box
  | .buildSlice t n ps => match P.underlying t, ZcB P t ps.toList with
    | some (.slice e), some ps => match ZP P e, ZcS P e with
      | some (z + 1), some v => if n * (z + 1) ≤ 16777216 && clen v == z + 1 then (match frzT P n e with
        | some ks => some (.bsliceF ks (z + 1) n v ps)
        | none => some (.bslice (z + 1) n v ps)) else none
      | _, _ => none
    | _, _ => none
  | .makeSlice t n c => match P.underlying t, cOpd n, cOpd c with
    | some (.slice e), some n, some c => match P.info? e, ZcS P e with
      | some i, some v => if 0 < i.size && clen v == i.size then some (.mkslice i.size i.bytes v n c) else none
      | _, _ => none
    | _, _, _ => none
  | .load t a => match ZbY P t, cOpd a with
    | some n, some a => some (.load n a)
    | _, _ => none
  | .store t a x => match ZP P t, cOpd a, cOpd x with
    | some n, some a, some x => some (.store n a x)
    | _, _, _ => none
  | .makeFunc (.func f) a b => match ZaZ a.toList, ZaZ b.toList with
    | some a, some b => if f < yld then some (.mkfn f a b) else none
    | _, _ => none
  | .call c => Zhp P c
  | _ => none
def Zmm (P : Program) (t : TypeId) : Bool := match P.underlying t with
  | some (.pointer _) => true
  | _ => false
def Znl (P : Program) (fs : List Field) : Bool := fs.any fun f => match P.underlying f.type with
  | some (.slice e) => Zmm P e
  | _ => false
def Znm (P : Program) (fs : List Field) : Bool := fs.any fun f => match P.underlying f.type with
  | some (.array _ e) => Zmm P e
  | _ => false
def Zh5 (P : Program) (e : TypeId) : Option Nat := match P.underlying e with
  | some (.pointer t) => (match P.underlying t with
    | some (.struct fs) => if Znl P fs.toList then some 0 else none
    | _ => none)
  | some (.struct fs) => if Znm P fs.toList then (match ZP P e with
    | some (z + 1) => some (z + 1)
    | _ => none) else none
  | _ => none
def ZjK : List (String × Nat) := [("(*calliope/bus.stage).one", 14), ("(*calliope/calliopelaw36.plain).pass", 0)]
def ZmH (P : Program) (op : Op) : Option SO := match op with
  | .load t a => match Zh5 P t, ZbY P t, cOpd a with
    | some _, some n, some a => some (.loadT n a)
    | _, _, _ => none
  | .call c => match ZaZ c.args.toList, c.callee with
    | some args, .value (.func f) => (match P.funcs[f]? with
      | some fn => if fn.name == "runtime.NumGoroutine" || fn.body.isNone then none else (ZjK.find? fun p => p.1 == fn.name).map fun p => .callT f p.2 args
      | none => none)
    | some [s, x], .builtin .append => (match c.argTypes.toList with
      | [t, t'] => if t = t' then (match P.underlying t with
        | some (.slice e) => (match Zh5 P e, P.info? e, ZcS P e with
          | some z, some i, some v => if 0 < i.size && 0 < i.bytes && clen v == i.size && i.size == max z 1 then some (.appT z i.bytes s x) else none
          | _, _, _ => none)
        | _ => none) else none
      | _ => none)
    | _, _ => none
  | _ => none
def cOp (P : Program) (op : Op) : Option SO := match ZmH P op with
  | some so => some so
  | none => cOp0 P op
def SO.makes : SO → Bool
  | .alloc _ | .box _ | .bslice .. | .bsliceF .. | .mkslice .. | .app .. | .appT .. => true
  | _ => false
def SO.tidies : SO → Bool
  | .alloc _ | .box _ | .bslice .. | .bsliceF .. | .mkslice .. | .app .. | .call .. | .callB .. | .callv .. | .appT .. => true
  | _ => false
def Znn (n : Nat) : Option Nat → Bool
  | some d => decide (d < n)
  | none => true
def cOps (P : Program) (n : Nat) (ops : Array Oper) : Nat → List Oper → Option (List SOp)
  | _, [] => some []
  | s, o :: r =>
    match cOp P o.op with
    | none => none
    | some so =>
      match cOps P n ops (if so.makes then s + 1 else s) r with
      | none => none
      | some l =>
        if Znn n o.dst then
          match o.guard with
          | none => some ({ dst := o.dst, op := so, guard := none, slot := s } :: l)
          | some (j, b) => match (ops[j]?).bind (·.dst) with
            | some t => some ({ dst := o.dst, op := so, guard := some (t, b), slot := s } :: l)
            | none => none
        else none
def ancs : List Oper → List Nat → List Nat
  | [], acc => acc
  | o :: r, acc => ancs r (acc ++ [o.after.toList.foldl (fun s e => if Region.binds .any e then s ||| 2 ^ e.on ||| acc.getD e.on 0 else s) 0])
def SO.looks : SO → List Nat
  | .mv x | .un _ x | .conv _ x | .field _ _ x | .fieldAddr _ x | .extract x _ | .nilck x | .len _ x | .box x | .load _ x | .toStr x => opdN x
  | .pick a b c => opdN a ++ opdN b ++ opdN c
  | .bin _ _ x y | .idxA _ _ x y | .idxS _ x y | .idxV _ _ _ x y | .idxStr x y | .mkslice _ _ _ x y | .store _ x y | .app _ _ x y | .copy _ x y => opdN x ++ opdN y
  | .build _ ps | .bslice _ _ _ ps | .bsliceF _ _ _ _ ps => ps.flatMap fun p => opdN p.2.2
  | .slStr x a b | .slS _ x a b | .slA _ _ x a b => opdN x ++ (match a with | some a => opdN a | none => []) ++ (match b with | some b => opdN b | none => [])
  | .mx _ l | .callP _ l | .call _ l | .callB _ _ l | .callT _ _ l => l.flatMap opdN
  | .loadT _ a => opdN a
  | .appT _ _ s x => opdN s ++ opdN x
  | .mkfn _ a b => a.flatMap opdN ++ b.flatMap opdN
  | .callv g l => opdN g ++ l.flatMap opdN
  | .alloc _ => []
where opdN : Opd → List Nat
  | .t n => [n]
  | .c _ => []
def SOp.looks (o : SOp) : List Nat := o.op.looks ++ (match o.guard with | some (g, _) => [g] | none => [])
def Zfa (x y : SOp) : Bool :=
  (match x.dst with | some d => !y.looks.contains d && !(y.dst == some d) | none => true) &&
  (match y.dst with | some d => !x.looks.contains d | none => true)
def SO.reads : SO → Bool
  | .slA .. | .load .. | .loadT .. | .callT .. | .appT .. | .store .. | .app .. | .copy .. | .toStr _ | .call .. | .callB .. | .callv .. | .alloc _ | .box _ | .bslice .. | .bsliceF .. | .mkslice .. => true
  | _ => false
def SO.writes : SO → Bool
  | .store .. | .app .. | .copy .. | .call .. | .callB .. | .callv .. | .callT .. | .appT .. | .alloc _ | .box _ | .bslice .. | .bsliceF .. | .mkslice .. => true
  | _ => false
def SO.calls : SO → Bool
  | .call .. | .callB .. | .callv .. | .app .. | .appT .. => true
  | _ => false
def Zdo (x y : SO) : Bool := (x.writes && y.reads) || (x.reads && y.writes)
def ZcT (anc : List Nat) (l : List SOp) : Nat → List SOp → Option (List (Nat × Nat))
  | _, [] => some []
  | j, o :: r =>
    match ZcT anc l (j + 1) r with
    | none => none
    | some ps =>
      let open_ := (List.range j).filter fun i => !(anc.getD j 0).testBit i
      if open_.all (fun i => match l[i]? with | some x => Zfa x o && !(x.op.calls && o.op.calls) | none => false) then
        some ((open_.filter fun i => match l[i]? with | some x => Zdo x.op o.op | none => false).map (fun i => (i, j)) ++ ps)
      else none
def Zce : Nat → List Oper → Bool
  | _, [] => true
  | j, o :: r => o.after.toList.all (fun e => !Region.binds .any e || decide (e.on < j)) && Zce (j + 1) r
def ZjL (md : Region.Mode) (mask : Nat) (o : Oper) : Bool := o.after.toList.all fun e => !Region.binds md e || mask.testBit e.on
def Zgr (md : Region.Mode) (mask : Nat) : Nat → List Oper → Option Nat
  | _, [] => none
  | j, o :: r => if !mask.testBit j && ZjL md mask o then some j else Zgr md mask (j + 1) r
def Ze1 (md : Region.Mode) (l : List Oper) : Nat → Nat → Bool
  | 0, mask => (List.range l.length).all fun i => mask.testBit i
  | n + 1, mask => match Zgr md mask 0 l with
    | some i => Ze1 md l n (mask ||| 2 ^ i)
    | none => (List.range l.length).all fun i => mask.testBit i
def ZfI (l : List Oper) : Bool := l.any fun o => o.after.toList.any fun e => !Region.binds .any e
theorem Zhq (ops : Array Oper) : ZfI ops.toList = Region.departs ops := by
  simp [ZfI, Region.departs]
def Zno (mixed : Bool) (ops : Array Oper) : Bool :=
  Zce 0 ops.toList &&
    (if mixed then Ze1 .any ops.toList ops.size 0 else if ZfI ops.toList then Ze1 .text ops.toList ops.size 0 && Ze1 .gc ops.toList ops.size 0 else Ze1 .any ops.toList ops.size 0)
def dsts : List SOp → List Nat
  | [] => []
  | o :: r => match o.dst with
    | some d => if (dsts r).contains d then dsts r else d :: dsts r
    | none => dsts r
def cReg (P : Program) (n : Nat) (vars : List Nat) (ops : Array Oper) (draw : Bool) : Option Reg :=
  match cOps P n ops 0 ops.toList with
  | none => none
  | some l =>
    match (if draw then (if Zno (P.follows .mixedOrders) ops then ZcT (ancs ops.toList []) l 0 l else none) else some []) with
    | none => none
    | some pairs => some
      { ops := l
        own := (dsts l).filter fun d => !vars.contains d
        slots := (l.filter (·.op.makes)).length
        tidy := l.any (·.op.tidies)
        pairs }
def opdT : Operand → List Nat
  | .tmp t => [t]
  | _ => []
def Zhr (ops : Array Oper) : List Oper → List Nat → List Nat
  | [], _ => []
  | o :: r, done =>
    let rd := (o.op.operands.toList.flatMap opdT).filter fun t => !done.contains t
    rd ++ Zhr ops r (if o.guard.isSome then done ++ o.dst.toList else done ++ o.dst.toList)
def ZaM : Code → List Nat
  | .region _ ops _ => Zhr ops ops.toList []
  | .seq a b => ZaM a ++ ZaM b
  | .cond c a b => opdT c ++ ZaM a ++ ZaM b
  | .block _ a => ZaM a
  | .loop a => ZaM a
  | .scope a => ZaM a
  | .rangeFunc f ps a b => opdT f ++ ZaM a ++ ZaM b
  | _ => []
def ZjM : ResultVar → List Nat
  | .tmp t => [t]
  | .cell t _ => [t]
def uni (a b : List Nat) : List Nat := a ++ b.filter fun x => !a.contains x
def writes (l : List Oper) : List Nat := l.flatMap fun o => o.dst.toList
def ZcU (R : List Nat) (Γ : List (Nat × List Nat)) : Code → List Nat → List Nat
  | .region _ ops _, L => uni (Zhr ops ops.toList []) (L.filter fun t => !(writes ops.toList).contains t)
  | .seq a b, L => ZcU R Γ a (ZcU R Γ b L)
  | .cond c a b, L => uni (opdT c) (uni (ZcU R Γ a L) (ZcU R Γ b L))
  | .block id a, L => ZcU R ((id, L) :: Γ) a L
  | .loop a, _ => ZcU R Γ a []
  | .exit id, _ => match Γ.find? (fun p => p.1 == id) with
    | some p => p.2
    | none => R
  | .ret, _ => R
  | _, L => L
def Zei (vars live : List Nat) : List Nat := vars.filter fun t => !live.contains t
def SO.boxes : SO → Bool
  | .alloc _ | .box _ | .call .. | .callB .. | .callv .. | .bsliceF .. | .appT .. => true
  | _ => false
def SC.boxes : SC → Bool
  | .reg r => r.ops.any fun o => o.op.boxes
  | .seq a b => a.boxes || b.boxes
  | .cond _ a b => a.boxes || b.boxes
  | .block _ a => a.boxes
  | .loop a => a.boxes
  | _ => false
def endS (s : SC) (D : List Nat) : SC := if s.boxes then .seq (.kill D) .tidy else .kill D
def cC (P : Program) (n : Nat) (vars R : List Nat) : Code → List (Nat × List Nat) → List Nat → Option SC
  | .skip, _, _ => some .skip
  | .region _ ops draw, _, _ => (cReg P n vars ops draw).map .reg
  | .seq a b, Γ, L => match cC P n vars R a Γ (ZcU R Γ b L), cC P n vars R b Γ L with
    | some a, some b => some (.seq a b)
    | _, _ => none
  | .cond c a b, Γ, L => match cOpd c, cC P n vars R a Γ L, cC P n vars R b Γ L with
    | some c, some a, some b => some (.cond c a b)
    | _, _, _ => none
  | .block id a, Γ, L => (cC P n vars R a ((id, L) :: Γ) L).map (.block id)
  | .loop a, Γ, _ => (cC P n vars R a Γ (ZcU R Γ a [])).map fun s => .seq (.kill (Zei vars (ZcU R Γ a []))) (.loop (.seq s (endS s (Zei vars (ZcU R Γ a [])))))
  | .exit id, Γ, _ => some (.seq (.kill (Zei vars (ZcU R Γ (.exit id) []))) (.exit id))
  | .ret, _, _ => some (.seq (.kill (Zei vars R)) .ret)
  | _, _, _ => none
def ins (x : Nat) : List Nat → List Nat
  | [] => [x]
  | y :: l => if x < y then x :: y :: l else if x = y then y :: l else y :: ins x l
def Znp : List Nat → List Nat
  | [] => []
  | x :: l => ins x (Znp l)
def cRes (P : Program) : List ResultVar → Option (List SRes)
  | [] => some []
  | .tmp t :: l => (cRes P l).map (.tmp t :: ·)
  | .cell a t :: l => match ZbY P t, cRes P l with
    | some n, some r => some (.cell a n :: r)
    | _, _ => none
def Znq (P : Program) (fn : Func) : Option SFn :=
  match fn.body with
  | none => none
  | some c =>
    let vars := Znp (ZaM c ++ fn.results.toList.flatMap ZjM)
    match cC P fn.ntmps vars (fn.results.toList.flatMap ZjM) c [] [], cRes P fn.results.toList with
    | some body, some res => some { np := fn.params.size, vars, body, res }
    | _, _ => none
def cFn (P : Program) (f : FuncId) : Option SFn := (P.funcs[f]?).bind (Znq P)
end Go.Sx
