/-
  No cell of these rows narrows 'for every input' (looked for: loops, veiled, ifaces, maps, wideKeys, modest, calm, conditions, laid).
  DERIVED. THE GIVEN ROWS OF THIS SEAT. 4 by the template 'for every input the law returns true; each argument reads behind the call as it read before'; 0 by the template 'total and deterministic' (their statements: YtmankoejlflhmaaTotals.lean).
  GIVEN WITH THE SEED: the statements are not yours to turn. If you find one false, say at which input.
  Laid BY PROGRAM, IN A SANDBOX (cutbox-rows.mjs): the forced cells as the released guide's own fill.sh prints them over the translation 85d18728a6f984eb… (all of the seat's roots in one cut). By AI agents, Wed Nov 11 2026. No macro, syntax, notation, axiom, sorry.
-/
import Derived.Test.YtmankoejlflhmaaChecked
import GoSem.Claim
import GoSem.ClaimJoined
import GoSem.ClaimMapViews
import Derived.JoinedTies
import Derived.KernelRfl
namespace Go.Proofs.Ytmankoejlflhmaa
/- THE CELL 'sum', in the pinned program and in every row, IS THE sha256 OF THE DUMP (.gsa) THAT YtmankoejlflhmaaProg.lean LOADS. Nothing in Lean hashes anything: it is a label: what it is worth is what the hold of that sum in a sandbox is worth. -/
noncomputable def Try.pinned : Pinned := { name := "ytmankoejlflhmaa", sum := "85d18728a6f984eb9ca09b51776e682f40efd2bd53c4ab7d5bc2a836b408d5ac", checked := Try.checked }
namespace Rows
def none {H : Type} : Left H := { results := [], args := [] }

/-- 'calliopelaw09.QuantValues': WHATEVER THE INPUT: true; the input reads as it did. -/
def quantValuesSpec : ChangeSpec := { name := "quantValues", fn := fun _ => fun
  | [d1, d2] => { results := [.lit (.bool true)], args := [d1, d2] }
  | _ => none }
def quantValuesRow : OpenClaim := { program := "ytmankoejlflhmaa", sum := "85d18728a6f984eb9ca09b51776e682f40efd2bd53c4ab7d5bc2a836b408d5ac", func := "calliope/calliopelaw09.QuantValues", spec := "quantValues", apart := false }
def QuantValuesSaid : Prop := quantValuesRow.holds Try.pinned (OpenSpec.ofChange quantValuesSpec)

/-- ITS FALSE NEIGHBOUR: 'it returns false'. Refute it at one input. -/
def quantValuesWrong : ChangeSpec := { name := "quantValues", fn := fun _ => fun
  | [d1, d2] => { results := [.lit (.bool false)], args := [d1, d2] }
  | _ => none }
def QuantValuesWrongFalsely : Prop := quantValuesRow.holds Try.pinned (OpenSpec.ofChange quantValuesWrong)

/-- 'calliopelaw09.QuantSteps': WHATEVER THE INPUT: true; the input reads as it did. -/
def quantStepsSpec : ChangeSpec := { name := "quantSteps", fn := fun _ => fun
  | [d1, d2] => { results := [.lit (.bool true)], args := [d1, d2] }
  | _ => none }
def quantStepsRow : OpenClaim := { program := "ytmankoejlflhmaa", sum := "85d18728a6f984eb9ca09b51776e682f40efd2bd53c4ab7d5bc2a836b408d5ac", func := "calliope/calliopelaw09.QuantSteps", spec := "quantSteps", apart := false }
def QuantStepsSaid : Prop := quantStepsRow.holds Try.pinned (OpenSpec.ofChange quantStepsSpec)

/-- ITS FALSE NEIGHBOUR: 'it returns false'. Refute it at one input. -/
def quantStepsWrong : ChangeSpec := { name := "quantSteps", fn := fun _ => fun
  | [d1, d2] => { results := [.lit (.bool false)], args := [d1, d2] }
  | _ => none }
def QuantStepsWrongFalsely : Prop := quantStepsRow.holds Try.pinned (OpenSpec.ofChange quantStepsWrong)

/-- 'calliopelaw09.QuantWidths': WHATEVER THE INPUT: true; the input reads as it did. -/
def quantWidthsSpec : ChangeSpec := { name := "quantWidths", fn := fun _ => fun
  | [d] => { results := [.lit (.bool true)], args := [d] }
  | _ => none }
def quantWidthsRow : OpenClaim := { program := "ytmankoejlflhmaa", sum := "85d18728a6f984eb9ca09b51776e682f40efd2bd53c4ab7d5bc2a836b408d5ac", func := "calliope/calliopelaw09.QuantWidths", spec := "quantWidths", apart := false }
def QuantWidthsSaid : Prop := quantWidthsRow.holds Try.pinned (OpenSpec.ofChange quantWidthsSpec)

/-- ITS FALSE NEIGHBOUR: 'it returns false'. Refute it at one input. -/
def quantWidthsWrong : ChangeSpec := { name := "quantWidths", fn := fun _ => fun
  | [d] => { results := [.lit (.bool false)], args := [d] }
  | _ => none }
def QuantWidthsWrongFalsely : Prop := quantWidthsRow.holds Try.pinned (OpenSpec.ofChange quantWidthsWrong)

/-- 'calliopelaw09.QuantNoise': WHATEVER THE INPUT: true; the input reads as it did. -/
def quantNoiseSpec : ChangeSpec := { name := "quantNoise", fn := fun _ => fun
  | [d1, d2, d3, d4] => { results := [.lit (.bool true)], args := [d1, d2, d3, d4] }
  | _ => none }
def quantNoiseRow : OpenClaim := { program := "ytmankoejlflhmaa", sum := "85d18728a6f984eb9ca09b51776e682f40efd2bd53c4ab7d5bc2a836b408d5ac", func := "calliope/calliopelaw09.QuantNoise", spec := "quantNoise", apart := false }
def QuantNoiseSaid : Prop := quantNoiseRow.holds Try.pinned (OpenSpec.ofChange quantNoiseSpec)

/-- ITS FALSE NEIGHBOUR: 'it returns false'. Refute it at one input. -/
def quantNoiseWrong : ChangeSpec := { name := "quantNoise", fn := fun _ => fun
  | [d1, d2, d3, d4] => { results := [.lit (.bool false)], args := [d1, d2, d3, d4] }
  | _ => none }
def QuantNoiseWrongFalsely : Prop := quantNoiseRow.holds Try.pinned (OpenSpec.ofChange quantNoiseWrong)

/- THE SECOND FORM. 'bulk': how many values and letters a reading holds, each counted each time it is reached (what is shared counts as often as it is met; a slice's spare places count too). A statement '..UptoSaid' is the law's where the arguments, and the package variables that the reading takes, are together of bulk at most 1048576: NARROWER than '..Said'. Prove '..Said' where nothing that the law and all that it calls make is longer than what came in: it says more and counts as full. Else prove '..UptoSaid'. A law counts once. -/
mutual
def uptoBulk {H : Type} : DataW H → Nat
  | .lit (.string bytes) => bytes.length + 1
  | .lit _ => 1
  | .nil => 1
  | .ptr d => uptoBulk d + 1
  | .slice elems spare => uptoBulkAll elems + uptoBulkAll spare + 1
  | .agg parts => uptoBulkAll parts + 1
  | .iface _ d => uptoBulk d + 1
  | .map entries => uptoBulkEntries entries + 1
  | .held _ => 1
def uptoBulkAll {H : Type} : List (DataW H) → Nat
  | [] => 0
  | d :: r => uptoBulk d + uptoBulkAll r
def uptoBulkEntries {H : Type} : List (Lit × DataW H) → Nat
  | [] => 0
  | x :: r => uptoBulkEntry x + uptoBulkEntries r
def uptoBulkEntry {H : Type} : Lit × DataW H → Nat
  | (.string bytes, d) => bytes.length + uptoBulk d + 1
  | (_, d) => uptoBulk d + 1
 end
def uptoSmall : (H : Type) → List (DataW H) → Bool := fun _ ds => decide (uptoBulkAll ds ≤ 1048576)
def OpenSpec.upto (s : _root_.Go.ChangeSpec) : _root_.Go.OpenSpec := { _root_.Go.OpenSpec.ofChange s with cond := some uptoSmall }

/-- 'calliopelaw09.QuantValues', WHERE WHAT IT READS IS OF BULK AT MOST 1048576: true; the input reads as it did. -/
def quantValuesUptoRow : OpenClaim := { program := "ytmankoejlflhmaa", sum := "85d18728a6f984eb9ca09b51776e682f40efd2bd53c4ab7d5bc2a836b408d5ac", func := "calliope/calliopelaw09.QuantValues", spec := "quantValues", apart := false, narrowed := true }
def QuantValuesUptoSaid : Prop := quantValuesUptoRow.holds Try.pinned (OpenSpec.upto quantValuesSpec)

/-- 'calliopelaw09.QuantSteps', WHERE WHAT IT READS IS OF BULK AT MOST 1048576: true; the input reads as it did. -/
def quantStepsUptoRow : OpenClaim := { program := "ytmankoejlflhmaa", sum := "85d18728a6f984eb9ca09b51776e682f40efd2bd53c4ab7d5bc2a836b408d5ac", func := "calliope/calliopelaw09.QuantSteps", spec := "quantSteps", apart := false, narrowed := true }
def QuantStepsUptoSaid : Prop := quantStepsUptoRow.holds Try.pinned (OpenSpec.upto quantStepsSpec)

/-- 'calliopelaw09.QuantWidths', WHERE WHAT IT READS IS OF BULK AT MOST 1048576: true; the input reads as it did. -/
def quantWidthsUptoRow : OpenClaim := { program := "ytmankoejlflhmaa", sum := "85d18728a6f984eb9ca09b51776e682f40efd2bd53c4ab7d5bc2a836b408d5ac", func := "calliope/calliopelaw09.QuantWidths", spec := "quantWidths", apart := false, narrowed := true }
def QuantWidthsUptoSaid : Prop := quantWidthsUptoRow.holds Try.pinned (OpenSpec.upto quantWidthsSpec)

/-- 'calliopelaw09.QuantNoise', WHERE WHAT IT READS IS OF BULK AT MOST 1048576: true; the input reads as it did. -/
def quantNoiseUptoRow : OpenClaim := { program := "ytmankoejlflhmaa", sum := "85d18728a6f984eb9ca09b51776e682f40efd2bd53c4ab7d5bc2a836b408d5ac", func := "calliope/calliopelaw09.QuantNoise", spec := "quantNoise", apart := false, narrowed := true }
def QuantNoiseUptoSaid : Prop := quantNoiseUptoRow.holds Try.pinned (OpenSpec.upto quantNoiseSpec)

end Rows
end Go.Proofs.Ytmankoejlflhmaa
