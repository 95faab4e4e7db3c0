/-
  No cell of these rows narrows 'for every input' (looked for: loops, veiled, ifaces, maps, wideKeys, modest, calm, conditions, laid).
  DERIVED. THE GIVEN ROWS OF THIS SEAT. 3 by the template 'for every input the law returns true; each argument reads behind the call as it read before'; 0 by the template 'total and deterministic' (their statements: YtlbfafbhflblcaaTotals.lean).
  GIVEN WITH THE SEED: the statements are not yours to turn. If you find one false, say at which input.
  Laid BY PROGRAM, IN A SANDBOX (cutbox-rows.mjs): the forced cells as the released guide's own fill.sh prints them over the translation 22326cd3f2ebf752… (all of the seat's roots in one cut). By AI agents, Wed Nov 11 2026. No macro, syntax, notation, axiom, sorry.
-/
import Derived.Test.YtlbfafbhflblcaaChecked
import GoSem.Claim
import GoSem.ClaimJoined
import GoSem.ClaimMapViews
import Derived.JoinedTies
import Derived.KernelRfl
namespace Go.Proofs.Ytlbfafbhflblcaa
/- THE CELL 'sum', in the pinned program and in every row, IS THE sha256 OF THE DUMP (.gsa) THAT YtlbfafbhflblcaaProg.lean LOADS. Nothing in Lean hashes anything: it is a label: what it is worth is what the hold of that sum in a sandbox is worth. -/
noncomputable def Try.pinned : Pinned := { name := "ytlbfafbhflblcaa", sum := "22326cd3f2ebf7523c2d0b8a9744f2d84a3ef39e37f86fe081338951830f1fb1", checked := Try.checked }
namespace Rows
def none {H : Type} : Left H := { results := [], args := [] }

/-- 'calliopelaw36.BusMixes': WHATEVER THE INPUT: true; the input reads as it did. -/
def busMixesSpec : ChangeSpec := { name := "busMixes", fn := fun _ => fun
  | [d] => { results := [.lit (.bool true)], args := [d] }
  | _ => none }
def busMixesRow : OpenClaim := { program := "ytlbfafbhflblcaa", sum := "22326cd3f2ebf7523c2d0b8a9744f2d84a3ef39e37f86fe081338951830f1fb1", func := "calliope/calliopelaw36.BusMixes", spec := "busMixes", apart := false }
def BusMixesSaid : Prop := busMixesRow.holds Try.pinned (OpenSpec.ofChange busMixesSpec)

/-- ITS FALSE NEIGHBOUR: 'it returns false'. Refute it at one input. -/
def busMixesWrong : ChangeSpec := { name := "busMixes", fn := fun _ => fun
  | [d] => { results := [.lit (.bool false)], args := [d] }
  | _ => none }
def BusMixesWrongFalsely : Prop := busMixesRow.holds Try.pinned (OpenSpec.ofChange busMixesWrong)

/-- 'calliopelaw36.BusPasses': WHATEVER THE INPUT: true; the input reads as it did. -/
def busPassesSpec : ChangeSpec := { name := "busPasses", fn := fun _ => fun
  | [d1, d2] => { results := [.lit (.bool true)], args := [d1, d2] }
  | _ => none }
def busPassesRow : OpenClaim := { program := "ytlbfafbhflblcaa", sum := "22326cd3f2ebf7523c2d0b8a9744f2d84a3ef39e37f86fe081338951830f1fb1", func := "calliope/calliopelaw36.BusPasses", spec := "busPasses", apart := false }
def BusPassesSaid : Prop := busPassesRow.holds Try.pinned (OpenSpec.ofChange busPassesSpec)

/-- ITS FALSE NEIGHBOUR: 'it returns false'. Refute it at one input. -/
def busPassesWrong : ChangeSpec := { name := "busPasses", fn := fun _ => fun
  | [d1, d2] => { results := [.lit (.bool false)], args := [d1, d2] }
  | _ => none }
def BusPassesWrongFalsely : Prop := busPassesRow.holds Try.pinned (OpenSpec.ofChange busPassesWrong)

/-- 'calliopelaw36.BusNobody': WHATEVER THE INPUT: true; the input reads as it did. -/
def busNobodySpec : ChangeSpec := { name := "busNobody", fn := fun _ => fun
  | [d] => { results := [.lit (.bool true)], args := [d] }
  | _ => none }
def busNobodyRow : OpenClaim := { program := "ytlbfafbhflblcaa", sum := "22326cd3f2ebf7523c2d0b8a9744f2d84a3ef39e37f86fe081338951830f1fb1", func := "calliope/calliopelaw36.BusNobody", spec := "busNobody", apart := false }
def BusNobodySaid : Prop := busNobodyRow.holds Try.pinned (OpenSpec.ofChange busNobodySpec)

/-- ITS FALSE NEIGHBOUR: 'it returns false'. Refute it at one input. -/
def busNobodyWrong : ChangeSpec := { name := "busNobody", fn := fun _ => fun
  | [d] => { results := [.lit (.bool false)], args := [d] }
  | _ => none }
def BusNobodyWrongFalsely : Prop := busNobodyRow.holds Try.pinned (OpenSpec.ofChange busNobodyWrong)

/- THE SECOND FORM. 'bulk': how many values and letters a reading holds, each counted each time it is reached (what is shared counts as often as it is met; a slice's spare places count too). A statement '..UptoSaid' is the law's where the arguments, and the package variables that the reading takes, are together of bulk at most 1048576: NARROWER than '..Said'. Prove '..Said' where nothing that the law and all that it calls make is longer than what came in: it says more and counts as full. Else prove '..UptoSaid'. A law counts once. -/
mutual
def uptoBulk {H : Type} : DataW H → Nat
  | .lit (.string bytes) => bytes.length + 1
  | .lit _ => 1
  | .nil => 1
  | .ptr d => uptoBulk d + 1
  | .slice elems spare => uptoBulkAll elems + uptoBulkAll spare + 1
  | .agg parts => uptoBulkAll parts + 1
  | .iface _ d => uptoBulk d + 1
  | .map entries => uptoBulkEntries entries + 1
  | .held _ => 1
def uptoBulkAll {H : Type} : List (DataW H) → Nat
  | [] => 0
  | d :: r => uptoBulk d + uptoBulkAll r
def uptoBulkEntries {H : Type} : List (Lit × DataW H) → Nat
  | [] => 0
  | x :: r => uptoBulkEntry x + uptoBulkEntries r
def uptoBulkEntry {H : Type} : Lit × DataW H → Nat
  | (.string bytes, d) => bytes.length + uptoBulk d + 1
  | (_, d) => uptoBulk d + 1
 end
def uptoSmall : (H : Type) → List (DataW H) → Bool := fun _ ds => decide (uptoBulkAll ds ≤ 1048576)
def OpenSpec.upto (s : _root_.Go.ChangeSpec) : _root_.Go.OpenSpec := { _root_.Go.OpenSpec.ofChange s with cond := some uptoSmall }

/-- 'calliopelaw36.BusMixes', WHERE WHAT IT READS IS OF BULK AT MOST 1048576: true; the input reads as it did. -/
def busMixesUptoRow : OpenClaim := { program := "ytlbfafbhflblcaa", sum := "22326cd3f2ebf7523c2d0b8a9744f2d84a3ef39e37f86fe081338951830f1fb1", func := "calliope/calliopelaw36.BusMixes", spec := "busMixes", apart := false, narrowed := true }
def BusMixesUptoSaid : Prop := busMixesUptoRow.holds Try.pinned (OpenSpec.upto busMixesSpec)

/-- 'calliopelaw36.BusPasses', WHERE WHAT IT READS IS OF BULK AT MOST 1048576: true; the input reads as it did. -/
def busPassesUptoRow : OpenClaim := { program := "ytlbfafbhflblcaa", sum := "22326cd3f2ebf7523c2d0b8a9744f2d84a3ef39e37f86fe081338951830f1fb1", func := "calliope/calliopelaw36.BusPasses", spec := "busPasses", apart := false, narrowed := true }
def BusPassesUptoSaid : Prop := busPassesUptoRow.holds Try.pinned (OpenSpec.upto busPassesSpec)

/-- 'calliopelaw36.BusNobody', WHERE WHAT IT READS IS OF BULK AT MOST 1048576: true; the input reads as it did. -/
def busNobodyUptoRow : OpenClaim := { program := "ytlbfafbhflblcaa", sum := "22326cd3f2ebf7523c2d0b8a9744f2d84a3ef39e37f86fe081338951830f1fb1", func := "calliope/calliopelaw36.BusNobody", spec := "busNobody", apart := false, narrowed := true }
def BusNobodyUptoSaid : Prop := busNobodyUptoRow.holds Try.pinned (OpenSpec.upto busNobodySpec)

end Rows
end Go.Proofs.Ytlbfafbhflblcaa
