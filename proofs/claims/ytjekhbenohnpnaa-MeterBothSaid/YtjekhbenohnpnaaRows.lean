/-
  No cell of these rows narrows 'for every input' (looked for: loops, veiled, ifaces, maps, wideKeys, modest, calm, conditions, laid).
  DERIVED. THE GIVEN ROWS OF THIS SEAT. 3 by the template 'for every input the law returns true; each argument reads behind the call as it read before'; 0 by the template 'total and deterministic' (their statements: YtjekhbenohnpnaaTotals.lean).
  GIVEN WITH THE SEED: the statements are not yours to turn. If you find one false, say at which input.
  Laid BY PROGRAM, IN A SANDBOX (cutbox-rows.mjs): the forced cells as the released guide's own fill.sh prints them over the translation e75294df6b03c100… (all of the seat's roots in one cut). By AI agents, Wed Nov 11 2026. No macro, syntax, notation, axiom, sorry.
-/
import Derived.Test.YtjekhbenohnpnaaChecked
import GoSem.Claim
import GoSem.ClaimJoined
import GoSem.ClaimMapViews
import Derived.JoinedTies
import Derived.KernelRfl
namespace Go.Proofs.Ytjekhbenohnpnaa
/- THE CELL 'sum', in the pinned program and in every row, IS THE sha256 OF THE DUMP (.gsa) THAT YtjekhbenohnpnaaProg.lean LOADS. Nothing in Lean hashes anything: it is a label: what it is worth is what the hold of that sum in a sandbox is worth. -/
noncomputable def Try.pinned : Pinned := { name := "ytjekhbenohnpnaa", sum := "e75294df6b03c1007d65e0da2bc526e0c404e839d6dfec48de949b1a04de9b8a", checked := Try.checked }
namespace Rows
def none {H : Type} : Left H := { results := [], args := [] }

/-- 'calliopelaw25.MeterRoots': WHATEVER THE INPUT: true; the input reads as it did. -/
def meterRootsSpec : ChangeSpec := { name := "meterRoots", fn := fun _ => fun
  | [d] => { results := [.lit (.bool true)], args := [d] }
  | _ => none }
def meterRootsRow : OpenClaim := { program := "ytjekhbenohnpnaa", sum := "e75294df6b03c1007d65e0da2bc526e0c404e839d6dfec48de949b1a04de9b8a", func := "calliope/calliopelaw25.MeterRoots", spec := "meterRoots", apart := false }
def MeterRootsSaid : Prop := meterRootsRow.holds Try.pinned (OpenSpec.ofChange meterRootsSpec)

/-- ITS FALSE NEIGHBOUR: 'it returns false'. Refute it at one input. -/
def meterRootsWrong : ChangeSpec := { name := "meterRoots", fn := fun _ => fun
  | [d] => { results := [.lit (.bool false)], args := [d] }
  | _ => none }
def MeterRootsWrongFalsely : Prop := meterRootsRow.holds Try.pinned (OpenSpec.ofChange meterRootsWrong)

/-- 'calliopelaw25.MeterBoth': WHATEVER THE INPUT: true; the input reads as it did. -/
def meterBothSpec : ChangeSpec := { name := "meterBoth", fn := fun _ => fun
  | [d1, d2] => { results := [.lit (.bool true)], args := [d1, d2] }
  | _ => none }
def meterBothRow : OpenClaim := { program := "ytjekhbenohnpnaa", sum := "e75294df6b03c1007d65e0da2bc526e0c404e839d6dfec48de949b1a04de9b8a", func := "calliope/calliopelaw25.MeterBoth", spec := "meterBoth", apart := false }
def MeterBothSaid : Prop := meterBothRow.holds Try.pinned (OpenSpec.ofChange meterBothSpec)

/-- ITS FALSE NEIGHBOUR: 'it returns false'. Refute it at one input. -/
def meterBothWrong : ChangeSpec := { name := "meterBoth", fn := fun _ => fun
  | [d1, d2] => { results := [.lit (.bool false)], args := [d1, d2] }
  | _ => none }
def MeterBothWrongFalsely : Prop := meterBothRow.holds Try.pinned (OpenSpec.ofChange meterBothWrong)

/-- 'calliopelaw25.MeterLevels': WHATEVER THE INPUT: true; the input reads as it did. -/
def meterLevelsSpec : ChangeSpec := { name := "meterLevels", fn := fun _ => fun
  | [d] => { results := [.lit (.bool true)], args := [d] }
  | _ => none }
def meterLevelsRow : OpenClaim := { program := "ytjekhbenohnpnaa", sum := "e75294df6b03c1007d65e0da2bc526e0c404e839d6dfec48de949b1a04de9b8a", func := "calliope/calliopelaw25.MeterLevels", spec := "meterLevels", apart := false }
def MeterLevelsSaid : Prop := meterLevelsRow.holds Try.pinned (OpenSpec.ofChange meterLevelsSpec)

/-- ITS FALSE NEIGHBOUR: 'it returns false'. Refute it at one input. -/
def meterLevelsWrong : ChangeSpec := { name := "meterLevels", fn := fun _ => fun
  | [d] => { results := [.lit (.bool false)], args := [d] }
  | _ => none }
def MeterLevelsWrongFalsely : Prop := meterLevelsRow.holds Try.pinned (OpenSpec.ofChange meterLevelsWrong)

/- THE SECOND FORM. 'bulk': how many values and letters a reading holds, each counted each time it is reached (what is shared counts as often as it is met; a slice's spare places count too). A statement '..UptoSaid' is the law's where the arguments, and the package variables that the reading takes, are together of bulk at most 1048576: NARROWER than '..Said'. Prove '..Said' where nothing that the law and all that it calls make is longer than what came in: it says more and counts as full. Else prove '..UptoSaid'. A law counts once. -/
mutual
def uptoBulk {H : Type} : DataW H → Nat
  | .lit (.string bytes) => bytes.length + 1
  | .lit _ => 1
  | .nil => 1
  | .ptr d => uptoBulk d + 1
  | .slice elems spare => uptoBulkAll elems + uptoBulkAll spare + 1
  | .agg parts => uptoBulkAll parts + 1
  | .iface _ d => uptoBulk d + 1
  | .map entries => uptoBulkEntries entries + 1
  | .held _ => 1
def uptoBulkAll {H : Type} : List (DataW H) → Nat
  | [] => 0
  | d :: r => uptoBulk d + uptoBulkAll r
def uptoBulkEntries {H : Type} : List (Lit × DataW H) → Nat
  | [] => 0
  | x :: r => uptoBulkEntry x + uptoBulkEntries r
def uptoBulkEntry {H : Type} : Lit × DataW H → Nat
  | (.string bytes, d) => bytes.length + uptoBulk d + 1
  | (_, d) => uptoBulk d + 1
 end
def uptoSmall : (H : Type) → List (DataW H) → Bool := fun _ ds => decide (uptoBulkAll ds ≤ 1048576)
def OpenSpec.upto (s : _root_.Go.ChangeSpec) : _root_.Go.OpenSpec := { _root_.Go.OpenSpec.ofChange s with cond := some uptoSmall }

/-- 'calliopelaw25.MeterRoots', WHERE WHAT IT READS IS OF BULK AT MOST 1048576: true; the input reads as it did. -/
def meterRootsUptoRow : OpenClaim := { program := "ytjekhbenohnpnaa", sum := "e75294df6b03c1007d65e0da2bc526e0c404e839d6dfec48de949b1a04de9b8a", func := "calliope/calliopelaw25.MeterRoots", spec := "meterRoots", apart := false, narrowed := true }
def MeterRootsUptoSaid : Prop := meterRootsUptoRow.holds Try.pinned (OpenSpec.upto meterRootsSpec)

/-- 'calliopelaw25.MeterBoth', WHERE WHAT IT READS IS OF BULK AT MOST 1048576: true; the input reads as it did. -/
def meterBothUptoRow : OpenClaim := { program := "ytjekhbenohnpnaa", sum := "e75294df6b03c1007d65e0da2bc526e0c404e839d6dfec48de949b1a04de9b8a", func := "calliope/calliopelaw25.MeterBoth", spec := "meterBoth", apart := false, narrowed := true }
def MeterBothUptoSaid : Prop := meterBothUptoRow.holds Try.pinned (OpenSpec.upto meterBothSpec)

/-- 'calliopelaw25.MeterLevels', WHERE WHAT IT READS IS OF BULK AT MOST 1048576: true; the input reads as it did. -/
def meterLevelsUptoRow : OpenClaim := { program := "ytjekhbenohnpnaa", sum := "e75294df6b03c1007d65e0da2bc526e0c404e839d6dfec48de949b1a04de9b8a", func := "calliope/calliopelaw25.MeterLevels", spec := "meterLevels", apart := false, narrowed := true }
def MeterLevelsUptoSaid : Prop := meterLevelsUptoRow.holds Try.pinned (OpenSpec.upto meterLevelsSpec)

end Rows
end Go.Proofs.Ytjekhbenohnpnaa
