/-
  No cell of these rows narrows 'for every input' (looked for: loops, veiled, ifaces, maps, wideKeys, modest, calm, conditions, laid).
  DERIVED. THE GIVEN ROWS OF THIS SEAT. 3 by the template 'for every input the law returns true; each argument reads behind the call as it read before'; 0 by the template 'total and deterministic' (their statements: YtkbjemencmaloaaTotals.lean).
  GIVEN WITH THE SEED: the statements are not yours to turn. If you find one false, say at which input.
  Laid BY PROGRAM, IN A SANDBOX (cutbox-rows.mjs): the forced cells as the released guide's own fill.sh prints them over the translation 38620123efc82ab9… (all of the seat's roots in one cut). By AI agents, Wed Nov 11 2026. No macro, syntax, notation, axiom, sorry.
-/
import Derived.Test.YtkbjemencmaloaaChecked
import GoSem.Claim
import GoSem.ClaimJoined
import GoSem.ClaimMapViews
import Derived.JoinedTies
import Derived.KernelRfl
namespace Go.Proofs.Ytkbjemencmaloaa
/- THE CELL 'sum', in the pinned program and in every row, IS THE sha256 OF THE DUMP (.gsa) THAT YtkbjemencmaloaaProg.lean LOADS. Nothing in Lean hashes anything: it is a label: what it is worth is what the hold of that sum in a sandbox is worth. -/
noncomputable def Try.pinned : Pinned := { name := "ytkbjemencmaloaa", sum := "38620123efc82ab910ac4117dcf97c2f534c2ebeb68edd2586d8654ce4a620b3", checked := Try.checked }
namespace Rows
def none {H : Type} : Left H := { results := [], args := [] }

/-- 'calliopelaw42.RateSteps': WHATEVER THE INPUT: true; the input reads as it did. -/
def rateStepsSpec : ChangeSpec := { name := "rateSteps", fn := fun _ => fun
  | [d1, d2, d3, d4] => { results := [.lit (.bool true)], args := [d1, d2, d3, d4] }
  | _ => none }
def rateStepsRow : OpenClaim := { program := "ytkbjemencmaloaa", sum := "38620123efc82ab910ac4117dcf97c2f534c2ebeb68edd2586d8654ce4a620b3", func := "calliope/calliopelaw42.RateSteps", spec := "rateSteps", apart := false }
def RateStepsSaid : Prop := rateStepsRow.holds Try.pinned (OpenSpec.ofChange rateStepsSpec)

/-- ITS FALSE NEIGHBOUR: 'it returns false'. Refute it at one input. -/
def rateStepsWrong : ChangeSpec := { name := "rateSteps", fn := fun _ => fun
  | [d1, d2, d3, d4] => { results := [.lit (.bool false)], args := [d1, d2, d3, d4] }
  | _ => none }
def RateStepsWrongFalsely : Prop := rateStepsRow.holds Try.pinned (OpenSpec.ofChange rateStepsWrong)

/-- 'calliopelaw42.RateAts': WHATEVER THE INPUT: true; the input reads as it did. -/
def rateAtsSpec : ChangeSpec := { name := "rateAts", fn := fun _ => fun
  | [d1, d2] => { results := [.lit (.bool true)], args := [d1, d2] }
  | _ => none }
def rateAtsRow : OpenClaim := { program := "ytkbjemencmaloaa", sum := "38620123efc82ab910ac4117dcf97c2f534c2ebeb68edd2586d8654ce4a620b3", func := "calliope/calliopelaw42.RateAts", spec := "rateAts", apart := false }
def RateAtsSaid : Prop := rateAtsRow.holds Try.pinned (OpenSpec.ofChange rateAtsSpec)

/-- ITS FALSE NEIGHBOUR: 'it returns false'. Refute it at one input. -/
def rateAtsWrong : ChangeSpec := { name := "rateAts", fn := fun _ => fun
  | [d1, d2] => { results := [.lit (.bool false)], args := [d1, d2] }
  | _ => none }
def RateAtsWrongFalsely : Prop := rateAtsRow.holds Try.pinned (OpenSpec.ofChange rateAtsWrong)

/-- 'calliopelaw42.RateConverts': WHATEVER THE INPUT: true; the input reads as it did. -/
def rateConvertsSpec : ChangeSpec := { name := "rateConverts", fn := fun _ => fun
  | [d1, d2, d3] => { results := [.lit (.bool true)], args := [d1, d2, d3] }
  | _ => none }
def rateConvertsRow : OpenClaim := { program := "ytkbjemencmaloaa", sum := "38620123efc82ab910ac4117dcf97c2f534c2ebeb68edd2586d8654ce4a620b3", func := "calliope/calliopelaw42.RateConverts", spec := "rateConverts", apart := false }
def RateConvertsSaid : Prop := rateConvertsRow.holds Try.pinned (OpenSpec.ofChange rateConvertsSpec)

/-- ITS FALSE NEIGHBOUR: 'it returns false'. Refute it at one input. -/
def rateConvertsWrong : ChangeSpec := { name := "rateConverts", fn := fun _ => fun
  | [d1, d2, d3] => { results := [.lit (.bool false)], args := [d1, d2, d3] }
  | _ => none }
def RateConvertsWrongFalsely : Prop := rateConvertsRow.holds Try.pinned (OpenSpec.ofChange rateConvertsWrong)

/- THE SECOND FORM. 'bulk': how many values and letters a reading holds, each counted each time it is reached (what is shared counts as often as it is met; a slice's spare places count too). A statement '..UptoSaid' is the law's where the arguments, and the package variables that the reading takes, are together of bulk at most 1048576: NARROWER than '..Said'. Prove '..Said' where nothing that the law and all that it calls make is longer than what came in: it says more and counts as full. Else prove '..UptoSaid'. A law counts once. -/
mutual
def uptoBulk {H : Type} : DataW H → Nat
  | .lit (.string bytes) => bytes.length + 1
  | .lit _ => 1
  | .nil => 1
  | .ptr d => uptoBulk d + 1
  | .slice elems spare => uptoBulkAll elems + uptoBulkAll spare + 1
  | .agg parts => uptoBulkAll parts + 1
  | .iface _ d => uptoBulk d + 1
  | .map entries => uptoBulkEntries entries + 1
  | .held _ => 1
def uptoBulkAll {H : Type} : List (DataW H) → Nat
  | [] => 0
  | d :: r => uptoBulk d + uptoBulkAll r
def uptoBulkEntries {H : Type} : List (Lit × DataW H) → Nat
  | [] => 0
  | x :: r => uptoBulkEntry x + uptoBulkEntries r
def uptoBulkEntry {H : Type} : Lit × DataW H → Nat
  | (.string bytes, d) => bytes.length + uptoBulk d + 1
  | (_, d) => uptoBulk d + 1
 end
def uptoSmall : (H : Type) → List (DataW H) → Bool := fun _ ds => decide (uptoBulkAll ds ≤ 1048576)
def OpenSpec.upto (s : _root_.Go.ChangeSpec) : _root_.Go.OpenSpec := { _root_.Go.OpenSpec.ofChange s with cond := some uptoSmall }

/-- 'calliopelaw42.RateSteps', WHERE WHAT IT READS IS OF BULK AT MOST 1048576: true; the input reads as it did. -/
def rateStepsUptoRow : OpenClaim := { program := "ytkbjemencmaloaa", sum := "38620123efc82ab910ac4117dcf97c2f534c2ebeb68edd2586d8654ce4a620b3", func := "calliope/calliopelaw42.RateSteps", spec := "rateSteps", apart := false, narrowed := true }
def RateStepsUptoSaid : Prop := rateStepsUptoRow.holds Try.pinned (OpenSpec.upto rateStepsSpec)

/-- 'calliopelaw42.RateAts', WHERE WHAT IT READS IS OF BULK AT MOST 1048576: true; the input reads as it did. -/
def rateAtsUptoRow : OpenClaim := { program := "ytkbjemencmaloaa", sum := "38620123efc82ab910ac4117dcf97c2f534c2ebeb68edd2586d8654ce4a620b3", func := "calliope/calliopelaw42.RateAts", spec := "rateAts", apart := false, narrowed := true }
def RateAtsUptoSaid : Prop := rateAtsUptoRow.holds Try.pinned (OpenSpec.upto rateAtsSpec)

/-- 'calliopelaw42.RateConverts', WHERE WHAT IT READS IS OF BULK AT MOST 1048576: true; the input reads as it did. -/
def rateConvertsUptoRow : OpenClaim := { program := "ytkbjemencmaloaa", sum := "38620123efc82ab910ac4117dcf97c2f534c2ebeb68edd2586d8654ce4a620b3", func := "calliope/calliopelaw42.RateConverts", spec := "rateConverts", apart := false, narrowed := true }
def RateConvertsUptoSaid : Prop := rateConvertsUptoRow.holds Try.pinned (OpenSpec.upto rateConvertsSpec)

end Rows
end Go.Proofs.Ytkbjemencmaloaa
