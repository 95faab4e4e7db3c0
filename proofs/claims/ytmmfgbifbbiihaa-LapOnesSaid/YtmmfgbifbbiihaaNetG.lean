/-
  Net's Forward and Inverse as functions of lists. Conditions: none.
-/
import Derived.Test.YtmmfgbifbbiihaaDecT
namespace Go.Proofs.Ytmmfgbifbbiihaa
open Go Go.Sx
set_option maxRecDepth 100000
set_option linter.unusedVariables false

abbrev w64 (x : Int) : Int := IntKind.i64.wrap x
def roundV (v : Int) : Int := w64 (shrI .i64 v 14 + bAnd .i64 (shrI .i64 v 13) 1)
def partV (c v : Int) : Int := roundV (w64 (c * v))
def turnV (p u x y : Int) : Int × Int := (w64 (w64 (x + partV p y) + partV p (w64 (y - partV u (w64 (x + partV p y))))), w64 (y - partV u (w64 (x + partV p y))))
def backV (p u x y : Int) : Int × Int := (w64 (w64 (x - partV p y) - partV p (w64 (y + partV u (w64 (x - partV p y))))), w64 (y + partV u (w64 (x - partV p y))))
theorem part_g (c v : Int) : T.g39 (0, [.i c, .i v]) = some (0, [.i (partV c v)]) := by kernel_rfl
theorem turn_g (x y p u : Int) : T.g28 (0, [.i x, .i y, .l [p, u]]) = some (0, [.i (turnV p u x y).1, .i (turnV p u x y).2]) := by kernel_rfl
theorem back_g (x y p u : Int) : T.g36 (0, [.i x, .i y, .l [p, u]]) = some (0, [.i (backV p u x y).1, .i (backV p u x y).2]) := by kernel_rfl
theorem turn_call (n : Nat) (x y p u : Int) : evF tab (n + 3) 28 [.int .i64 x, .int .i64 y, .ints .i64 [p, u]] [] = some (.tup [.int .i64 (turnV p u x y).1, .int .i64 (turnV p u x y).2], [], []) :=
  (T.ok28 n).ret (i := 0) (ls := [.i x, .i y, .l [p, u]]) (j := 0) (turn_g x y p u) rfl rfl rfl rfl
theorem back_call (n : Nat) (x y p u : Int) : evF tab (n + 3) 36 [.int .i64 x, .int .i64 y, .ints .i64 [p, u]] [] = some (.tup [.int .i64 (backV p u x y).1, .int .i64 (backV p u x y).2], [], []) :=
  (T.ok36 n).ret (i := 0) (ls := [.i x, .i y, .l [p, u]]) (j := 0) (back_g x y p u) rfl rfl rfl rfl

/-- One turn of a block's places i and i + 2^r. -/
def atV (tv : Int → Int → Int → Int → Int × Int) (ts : List Int) (r : Nat) (b : List Int) (i : Nat) : List Int :=
  (b.set i (tv (ts.getD (2 * tix r i) 0) (ts.getD (2 * tix r i + 1) 0) (b.getD i 0) (b.getD (i + 2 ^ r) 0)).1).set (i + 2 ^ r) (tv (ts.getD (2 * tix r i) 0) (ts.getD (2 * tix r i + 1) 0) (b.getD i 0) (b.getD (i + 2 ^ r) 0)).2
def roundsV (tv : Int → Int → Int → Int → Int × Int) (ts : List Int) (rs : List Nat) (b : List Int) : List Int := rs.foldl (fun b r => (preP r 16).foldl (atV tv ts r) b) b
theorem netRound_eq {call : CallF} {f : Nat} {tv : Int → Int → Int → Int → Int × Int} (h : ∀ x y p u, call f [.int .i64 x, .int .i64 y, .ints .i64 [p, u]] [] = some (.tup [.int .i64 (tv p u x y).1, .int .i64 (tv p u x y).2], [], [])) (ts : List Int) (r : Nat) : ∀ (l : List Nat) (b : List Int), netRound call f ts r l b = some (l.foldl (atV tv ts r) b)
  | [], b => rfl
  | i :: l, b => by
    have e : netAt call f ts r b i = some (atV tv ts r b i) := by
      unfold netAt
      rw [h]
      rfl
    unfold netRound
    rw [e]
    exact netRound_eq h ts r l _
theorem netAll_eq {call : CallF} {f : Nat} {tv : Int → Int → Int → Int → Int × Int} (h : ∀ x y p u, call f [.int .i64 x, .int .i64 y, .ints .i64 [p, u]] [] = some (.tup [.int .i64 (tv p u x y).1, .int .i64 (tv p u x y).2], [], [])) (ts : List Int) : ∀ (rs : List Nat) (b : List Int), netAll call f ts rs b = some (roundsV tv ts rs b)
  | [], b => rfl
  | r :: rs, b => by
    unfold netAll
    rw [netRound_eq h]
    exact netAll_eq h ts rs _
theorem asL_some {r : List Leaf} {k : List Int → List Leaf → Option (Nat × List Leaf)} {x : Nat × List Leaf} (h : asL r k none = some x) : ∃ a r', r = .l a :: r' ∧ k a r' = some x := by
  unfold asL at h
  split at h
  · exact ⟨_, _, rfl, h⟩
  · cases h
theorem asE_some {r : List Leaf} {k : Option (Nat × List Leaf)} {x : Nat × List Leaf} (h : asE r k none = some x) : r = [] ∧ k = some x := by
  unfold asE at h
  split at h
  · exact ⟨rfl, h⟩
  · cases h
def netL (tv : Int → Int → Int → Int → Int × Int) (rs : List Nat) (s : Nat × List Leaf) : Option (Nat × List Leaf) := match s.1 with
  | 0 => asL s.2 (fun a0 r => asL r (fun a1 r => asE r (if a0.length = 16 ∧ a1.length = 16 then some (0, [.l (roundsV tv a0 rs a1)]) else none) none) none) none
  | _ => none
def netIns : List APat := [⟨[.ints .i64, .ints .i64], []⟩]
def netOuts : List RPat := [⟨.ints .i64, [], []⟩]
theorem net_sound {n f g : Nat} {tv : Int → Int → Int → Int → Int × Int} {rs : List Nat} (h : ∀ x y p u, evF tab n g [.int .i64 x, .int .i64 y, .ints .i64 [p, u]] [] = some (.tup [.int .i64 (tv p u x y).1, .int .i64 (tv p u x y).2], [], [])) {fn : SFn} (hf : tab f = some fn) (hx : fn.ext = some (netG g rs)) : EntSound (evF tab (n + 1)) f ⟨netIns, netOuts, netL tv rs⟩ := by
  intro i ls j r sh args hh hL hi hu
  match i, hi with
  | 0, hi =>
    cases hi
    obtain ⟨a, r1, h1, hL1⟩ := asL_some (show asL ls _ none = some (j, r) from hL)
    obtain ⟨b, r2, h2, hL2⟩ := asL_some hL1
    obtain ⟨h3, hL3⟩ := asE_some hL2
    subst h1 h2 h3
    split at hL3
    · rename_i hlen
      simp only [Option.some.injEq, Prod.mk.injEq] at hL3
      obtain ⟨rfl, rfl⟩ := hL3
      have hf2 := fillA_of hu (fun args h => (args, h)) ([], [])
      have hf3 : (([.ints .i64 a, .ints .i64 b], []) : List EV × List Row) = (args, hh) := hf2
      simp only [Prod.mk.injEq] at hf3
      obtain ⟨rfl, rfl⟩ := hf3
      refine ⟨(.ints .i64 (roundsV tv a rs b), [], []), ⟨.ints .i64, [], []⟩, ?_, rfl, rfl⟩
      unfold evF
      simp only [hf, hx]
      unfold netG
      simp only [if_pos hlen, netAll_eq h]
      rfl
    · cases hL3
  | i + 1, hi => cases hi

def ain17 : List APat := netIns
def aout17 : List RPat := netOuts
def g17 (s : Nat × List Leaf) : Option (Nat × List Leaf) := netL turnV rsF s
def ent17 : Ent := ⟨ain17, aout17, g17⟩
theorem ok17 (n : Nat) : EntSound (evF tab (n + 4)) 17 ent17 := net_sound (n := n + 3) (turn_call n) t17 rfl
theorem g17_ok (a b : List Int) (ha : a.length = 16) (hb : b.length = 16) : g17 (0, [.l a, .l b]) = some (0, [.l (roundsV turnV a rsF b)]) := if_pos ⟨ha, hb⟩

def ain25 : List APat := netIns
def aout25 : List RPat := netOuts
def g25 (s : Nat × List Leaf) : Option (Nat × List Leaf) := netL backV rsI s
def ent25 : Ent := ⟨ain25, aout25, g25⟩
theorem ok25 (n : Nat) : EntSound (evF tab (n + 4)) 25 ent25 := net_sound (n := n + 3) (back_call n) t25 rfl
theorem g25_ok (a b : List Int) (ha : a.length = 16) (hb : b.length = 16) : g25 (0, [.l a, .l b]) = some (0, [.l (roundsV backV a rsI b)]) := if_pos ⟨ha, hb⟩

end Go.Proofs.Ytmmfgbifbbiihaa