/-
  No cell of these rows narrows 'for every input' (looked for: loops, veiled, ifaces, maps, wideKeys, modest, calm, conditions, laid).
  DERIVED. THE GIVEN ROWS OF THIS SEAT. 3 by the template 'for every input the law returns true; each argument reads behind the call as it read before'; 0 by the template 'total and deterministic' (their statements: YtmmhmccmbohmoaaTotals.lean).
  GIVEN WITH THE SEED: the statements are not yours to turn. If you find one false, say at which input.
  Laid BY PROGRAM, IN A SANDBOX (cutbox-rows.mjs): the forced cells as the released guide's own fill.sh prints them over the translation 7e9dc5bde22b8a7b… (all of the seat's roots in one cut). By AI agents, Wed Nov 11 2026. No macro, syntax, notation, axiom, sorry.
-/
import Derived.Test.YtmmhmccmbohmoaaChecked
import GoSem.Claim
import GoSem.ClaimJoined
import GoSem.ClaimMapViews
import Derived.JoinedTies
import Derived.KernelRfl
namespace Go.Proofs.Ytmmhmccmbohmoaa
/- THE CELL 'sum', in the pinned program and in every row, IS THE sha256 OF THE DUMP (.gsa) THAT YtmmhmccmbohmoaaProg.lean LOADS. Nothing in Lean hashes anything: it is a label: what it is worth is what the hold of that sum in a sandbox is worth. -/
noncomputable def Try.pinned : Pinned := { name := "ytmmhmccmbohmoaa", sum := "7e9dc5bde22b8a7bda48185fa51bad82f0307fb10465c8308e7349e5d051d058", checked := Try.checked }
namespace Rows
def none {H : Type} : Left H := { results := [], args := [] }

/-- 'calliopelaw35.EchoPlays': WHATEVER THE INPUT: true; the input reads as it did. -/
def echoPlaysSpec : ChangeSpec := { name := "echoPlays", fn := fun _ => fun
  | [d1, d2] => { results := [.lit (.bool true)], args := [d1, d2] }
  | _ => none }
def echoPlaysRow : OpenClaim := { program := "ytmmhmccmbohmoaa", sum := "7e9dc5bde22b8a7bda48185fa51bad82f0307fb10465c8308e7349e5d051d058", func := "calliope/calliopelaw35.EchoPlays", spec := "echoPlays", apart := false }
def EchoPlaysSaid : Prop := echoPlaysRow.holds Try.pinned (OpenSpec.ofChange echoPlaysSpec)

/-- ITS FALSE NEIGHBOUR: 'it returns false'. Refute it at one input. -/
def echoPlaysWrong : ChangeSpec := { name := "echoPlays", fn := fun _ => fun
  | [d1, d2] => { results := [.lit (.bool false)], args := [d1, d2] }
  | _ => none }
def EchoPlaysWrongFalsely : Prop := echoPlaysRow.holds Try.pinned (OpenSpec.ofChange echoPlaysWrong)

/-- 'calliopelaw35.EchoEnds': WHATEVER THE INPUT: true; the input reads as it did. -/
def echoEndsSpec : ChangeSpec := { name := "echoEnds", fn := fun _ => fun
  | [d1, d2] => { results := [.lit (.bool true)], args := [d1, d2] }
  | _ => none }
def echoEndsRow : OpenClaim := { program := "ytmmhmccmbohmoaa", sum := "7e9dc5bde22b8a7bda48185fa51bad82f0307fb10465c8308e7349e5d051d058", func := "calliope/calliopelaw35.EchoEnds", spec := "echoEnds", apart := false }
def EchoEndsSaid : Prop := echoEndsRow.holds Try.pinned (OpenSpec.ofChange echoEndsSpec)

/-- ITS FALSE NEIGHBOUR: 'it returns false'. Refute it at one input. -/
def echoEndsWrong : ChangeSpec := { name := "echoEnds", fn := fun _ => fun
  | [d1, d2] => { results := [.lit (.bool false)], args := [d1, d2] }
  | _ => none }
def EchoEndsWrongFalsely : Prop := echoEndsRow.holds Try.pinned (OpenSpec.ofChange echoEndsWrong)

/-- 'calliopelaw35.EchoNobody': WHATEVER THE INPUT: true; the input reads as it did. -/
def echoNobodySpec : ChangeSpec := { name := "echoNobody", fn := fun _ => fun
  | [d1, d2, d3] => { results := [.lit (.bool true)], args := [d1, d2, d3] }
  | _ => none }
def echoNobodyRow : OpenClaim := { program := "ytmmhmccmbohmoaa", sum := "7e9dc5bde22b8a7bda48185fa51bad82f0307fb10465c8308e7349e5d051d058", func := "calliope/calliopelaw35.EchoNobody", spec := "echoNobody", apart := false }
def EchoNobodySaid : Prop := echoNobodyRow.holds Try.pinned (OpenSpec.ofChange echoNobodySpec)

/-- ITS FALSE NEIGHBOUR: 'it returns false'. Refute it at one input. -/
def echoNobodyWrong : ChangeSpec := { name := "echoNobody", fn := fun _ => fun
  | [d1, d2, d3] => { results := [.lit (.bool false)], args := [d1, d2, d3] }
  | _ => none }
def EchoNobodyWrongFalsely : Prop := echoNobodyRow.holds Try.pinned (OpenSpec.ofChange echoNobodyWrong)

/- THE SECOND FORM. 'bulk': how many values and letters a reading holds, each counted each time it is reached (what is shared counts as often as it is met; a slice's spare places count too). A statement '..UptoSaid' is the law's where the arguments, and the package variables that the reading takes, are together of bulk at most 1048576: NARROWER than '..Said'. Prove '..Said' where nothing that the law and all that it calls make is longer than what came in: it says more and counts as full. Else prove '..UptoSaid'. A law counts once. -/
mutual
def uptoBulk {H : Type} : DataW H → Nat
  | .lit (.string bytes) => bytes.length + 1
  | .lit _ => 1
  | .nil => 1
  | .ptr d => uptoBulk d + 1
  | .slice elems spare => uptoBulkAll elems + uptoBulkAll spare + 1
  | .agg parts => uptoBulkAll parts + 1
  | .iface _ d => uptoBulk d + 1
  | .map entries => uptoBulkEntries entries + 1
  | .held _ => 1
def uptoBulkAll {H : Type} : List (DataW H) → Nat
  | [] => 0
  | d :: r => uptoBulk d + uptoBulkAll r
def uptoBulkEntries {H : Type} : List (Lit × DataW H) → Nat
  | [] => 0
  | x :: r => uptoBulkEntry x + uptoBulkEntries r
def uptoBulkEntry {H : Type} : Lit × DataW H → Nat
  | (.string bytes, d) => bytes.length + uptoBulk d + 1
  | (_, d) => uptoBulk d + 1
 end
def uptoSmall : (H : Type) → List (DataW H) → Bool := fun _ ds => decide (uptoBulkAll ds ≤ 1048576)
def OpenSpec.upto (s : _root_.Go.ChangeSpec) : _root_.Go.OpenSpec := { _root_.Go.OpenSpec.ofChange s with cond := some uptoSmall }

/-- 'calliopelaw35.EchoPlays', WHERE WHAT IT READS IS OF BULK AT MOST 1048576: true; the input reads as it did. -/
def echoPlaysUptoRow : OpenClaim := { program := "ytmmhmccmbohmoaa", sum := "7e9dc5bde22b8a7bda48185fa51bad82f0307fb10465c8308e7349e5d051d058", func := "calliope/calliopelaw35.EchoPlays", spec := "echoPlays", apart := false, narrowed := true }
def EchoPlaysUptoSaid : Prop := echoPlaysUptoRow.holds Try.pinned (OpenSpec.upto echoPlaysSpec)

/-- 'calliopelaw35.EchoEnds', WHERE WHAT IT READS IS OF BULK AT MOST 1048576: true; the input reads as it did. -/
def echoEndsUptoRow : OpenClaim := { program := "ytmmhmccmbohmoaa", sum := "7e9dc5bde22b8a7bda48185fa51bad82f0307fb10465c8308e7349e5d051d058", func := "calliope/calliopelaw35.EchoEnds", spec := "echoEnds", apart := false, narrowed := true }
def EchoEndsUptoSaid : Prop := echoEndsUptoRow.holds Try.pinned (OpenSpec.upto echoEndsSpec)

/-- 'calliopelaw35.EchoNobody', WHERE WHAT IT READS IS OF BULK AT MOST 1048576: true; the input reads as it did. -/
def echoNobodyUptoRow : OpenClaim := { program := "ytmmhmccmbohmoaa", sum := "7e9dc5bde22b8a7bda48185fa51bad82f0307fb10465c8308e7349e5d051d058", func := "calliope/calliopelaw35.EchoNobody", spec := "echoNobody", apart := false, narrowed := true }
def EchoNobodyUptoSaid : Prop := echoNobodyUptoRow.holds Try.pinned (OpenSpec.upto echoNobodySpec)

end Rows
end Go.Proofs.Ytmmhmccmbohmoaa
