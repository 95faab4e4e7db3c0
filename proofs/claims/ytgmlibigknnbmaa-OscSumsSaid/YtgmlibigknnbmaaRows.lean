/-
  No cell of these rows narrows 'for every input' (looked for: loops, veiled, ifaces, maps, wideKeys, modest, calm, conditions, laid).
  DERIVED. THE GIVEN ROWS OF THIS SEAT. 4 by the template 'for every input the law returns true; each argument reads behind the call as it read before'; 0 by the template 'total and deterministic' (their statements: YtgmlibigknnbmaaTotals.lean).
  GIVEN WITH THE SEED: the statements are not yours to turn. If you find one false, say at which input.
  Laid BY PROGRAM, IN A SANDBOX (cutbox-rows.mjs): the forced cells as the released guide's own fill.sh prints them over the translation 84e7117459b0a6ce… (all of the seat's roots in one cut). By AI agents, Wed Nov 11 2026. No macro, syntax, notation, axiom, sorry.
-/
import Derived.Test.YtgmlibigknnbmaaChecked
import GoSem.Claim
import GoSem.ClaimJoined
import GoSem.ClaimMapViews
import Derived.JoinedTies
import Derived.KernelRfl
namespace Go.Proofs.Ytgmlibigknnbmaa
/- THE CELL 'sum', in the pinned program and in every row, IS THE sha256 OF THE DUMP (.gsa) THAT YtgmlibigknnbmaaProg.lean LOADS. Nothing in Lean hashes anything: it is a label: what it is worth is what the hold of that sum in a sandbox is worth. -/
noncomputable def Try.pinned : Pinned := { name := "ytgmlibigknnbmaa", sum := "84e7117459b0a6ce7a2e5326eec28d24b31393b95820e6d75b08bd572b4c8079", checked := Try.checked }
namespace Rows
def none {H : Type} : Left H := { results := [], args := [] }

/-- 'calliopelaw33.OscAts': WHATEVER THE INPUT: true; the input reads as it did. -/
def oscAtsSpec : ChangeSpec := { name := "oscAts", fn := fun _ => fun
  | [d1, d2] => { results := [.lit (.bool true)], args := [d1, d2] }
  | _ => none }
def oscAtsRow : OpenClaim := { program := "ytgmlibigknnbmaa", sum := "84e7117459b0a6ce7a2e5326eec28d24b31393b95820e6d75b08bd572b4c8079", func := "calliope/calliopelaw33.OscAts", spec := "oscAts", apart := false }
def OscAtsSaid : Prop := oscAtsRow.holds Try.pinned (OpenSpec.ofChange oscAtsSpec)

/-- ITS FALSE NEIGHBOUR: 'it returns false'. Refute it at one input. -/
def oscAtsWrong : ChangeSpec := { name := "oscAts", fn := fun _ => fun
  | [d1, d2] => { results := [.lit (.bool false)], args := [d1, d2] }
  | _ => none }
def OscAtsWrongFalsely : Prop := oscAtsRow.holds Try.pinned (OpenSpec.ofChange oscAtsWrong)

/-- 'calliopelaw33.OscRands': WHATEVER THE INPUT: true; the input reads as it did. -/
def oscRandsSpec : ChangeSpec := { name := "oscRands", fn := fun _ => fun
  | [d1, d2] => { results := [.lit (.bool true)], args := [d1, d2] }
  | _ => none }
def oscRandsRow : OpenClaim := { program := "ytgmlibigknnbmaa", sum := "84e7117459b0a6ce7a2e5326eec28d24b31393b95820e6d75b08bd572b4c8079", func := "calliope/calliopelaw33.OscRands", spec := "oscRands", apart := false }
def OscRandsSaid : Prop := oscRandsRow.holds Try.pinned (OpenSpec.ofChange oscRandsSpec)

/-- ITS FALSE NEIGHBOUR: 'it returns false'. Refute it at one input. -/
def oscRandsWrong : ChangeSpec := { name := "oscRands", fn := fun _ => fun
  | [d1, d2] => { results := [.lit (.bool false)], args := [d1, d2] }
  | _ => none }
def OscRandsWrongFalsely : Prop := oscRandsRow.holds Try.pinned (OpenSpec.ofChange oscRandsWrong)

/-- 'calliopelaw33.OscMakes': WHATEVER THE INPUT: true; the input reads as it did. -/
def oscMakesSpec : ChangeSpec := { name := "oscMakes", fn := fun _ => fun
  | [d1, d2, d3, d4] => { results := [.lit (.bool true)], args := [d1, d2, d3, d4] }
  | _ => none }
def oscMakesRow : OpenClaim := { program := "ytgmlibigknnbmaa", sum := "84e7117459b0a6ce7a2e5326eec28d24b31393b95820e6d75b08bd572b4c8079", func := "calliope/calliopelaw33.OscMakes", spec := "oscMakes", apart := false }
def OscMakesSaid : Prop := oscMakesRow.holds Try.pinned (OpenSpec.ofChange oscMakesSpec)

/-- ITS FALSE NEIGHBOUR: 'it returns false'. Refute it at one input. -/
def oscMakesWrong : ChangeSpec := { name := "oscMakes", fn := fun _ => fun
  | [d1, d2, d3, d4] => { results := [.lit (.bool false)], args := [d1, d2, d3, d4] }
  | _ => none }
def OscMakesWrongFalsely : Prop := oscMakesRow.holds Try.pinned (OpenSpec.ofChange oscMakesWrong)

/-- 'calliopelaw33.OscSums': WHATEVER THE INPUT: true; the input reads as it did. -/
def oscSumsSpec : ChangeSpec := { name := "oscSums", fn := fun _ => fun
  | [d1, d2, d3] => { results := [.lit (.bool true)], args := [d1, d2, d3] }
  | _ => none }
def oscSumsRow : OpenClaim := { program := "ytgmlibigknnbmaa", sum := "84e7117459b0a6ce7a2e5326eec28d24b31393b95820e6d75b08bd572b4c8079", func := "calliope/calliopelaw33.OscSums", spec := "oscSums", apart := false }
def OscSumsSaid : Prop := oscSumsRow.holds Try.pinned (OpenSpec.ofChange oscSumsSpec)

/-- ITS FALSE NEIGHBOUR: 'it returns false'. Refute it at one input. -/
def oscSumsWrong : ChangeSpec := { name := "oscSums", fn := fun _ => fun
  | [d1, d2, d3] => { results := [.lit (.bool false)], args := [d1, d2, d3] }
  | _ => none }
def OscSumsWrongFalsely : Prop := oscSumsRow.holds Try.pinned (OpenSpec.ofChange oscSumsWrong)

/- THE SECOND FORM. 'bulk': how many values and letters a reading holds, each counted each time it is reached (what is shared counts as often as it is met; a slice's spare places count too). A statement '..UptoSaid' is the law's where the arguments, and the package variables that the reading takes, are together of bulk at most 1048576: NARROWER than '..Said'. Prove '..Said' where nothing that the law and all that it calls make is longer than what came in: it says more and counts as full. Else prove '..UptoSaid'. A law counts once. -/
mutual
def uptoBulk {H : Type} : DataW H → Nat
  | .lit (.string bytes) => bytes.length + 1
  | .lit _ => 1
  | .nil => 1
  | .ptr d => uptoBulk d + 1
  | .slice elems spare => uptoBulkAll elems + uptoBulkAll spare + 1
  | .agg parts => uptoBulkAll parts + 1
  | .iface _ d => uptoBulk d + 1
  | .map entries => uptoBulkEntries entries + 1
  | .held _ => 1
def uptoBulkAll {H : Type} : List (DataW H) → Nat
  | [] => 0
  | d :: r => uptoBulk d + uptoBulkAll r
def uptoBulkEntries {H : Type} : List (Lit × DataW H) → Nat
  | [] => 0
  | x :: r => uptoBulkEntry x + uptoBulkEntries r
def uptoBulkEntry {H : Type} : Lit × DataW H → Nat
  | (.string bytes, d) => bytes.length + uptoBulk d + 1
  | (_, d) => uptoBulk d + 1
 end
def uptoSmall : (H : Type) → List (DataW H) → Bool := fun _ ds => decide (uptoBulkAll ds ≤ 1048576)
def OpenSpec.upto (s : _root_.Go.ChangeSpec) : _root_.Go.OpenSpec := { _root_.Go.OpenSpec.ofChange s with cond := some uptoSmall }

/-- 'calliopelaw33.OscAts', WHERE WHAT IT READS IS OF BULK AT MOST 1048576: true; the input reads as it did. -/
def oscAtsUptoRow : OpenClaim := { program := "ytgmlibigknnbmaa", sum := "84e7117459b0a6ce7a2e5326eec28d24b31393b95820e6d75b08bd572b4c8079", func := "calliope/calliopelaw33.OscAts", spec := "oscAts", apart := false, narrowed := true }
def OscAtsUptoSaid : Prop := oscAtsUptoRow.holds Try.pinned (OpenSpec.upto oscAtsSpec)

/-- 'calliopelaw33.OscRands', WHERE WHAT IT READS IS OF BULK AT MOST 1048576: true; the input reads as it did. -/
def oscRandsUptoRow : OpenClaim := { program := "ytgmlibigknnbmaa", sum := "84e7117459b0a6ce7a2e5326eec28d24b31393b95820e6d75b08bd572b4c8079", func := "calliope/calliopelaw33.OscRands", spec := "oscRands", apart := false, narrowed := true }
def OscRandsUptoSaid : Prop := oscRandsUptoRow.holds Try.pinned (OpenSpec.upto oscRandsSpec)

/-- 'calliopelaw33.OscMakes', WHERE WHAT IT READS IS OF BULK AT MOST 1048576: true; the input reads as it did. -/
def oscMakesUptoRow : OpenClaim := { program := "ytgmlibigknnbmaa", sum := "84e7117459b0a6ce7a2e5326eec28d24b31393b95820e6d75b08bd572b4c8079", func := "calliope/calliopelaw33.OscMakes", spec := "oscMakes", apart := false, narrowed := true }
def OscMakesUptoSaid : Prop := oscMakesUptoRow.holds Try.pinned (OpenSpec.upto oscMakesSpec)

/-- 'calliopelaw33.OscSums', WHERE WHAT IT READS IS OF BULK AT MOST 1048576: true; the input reads as it did. -/
def oscSumsUptoRow : OpenClaim := { program := "ytgmlibigknnbmaa", sum := "84e7117459b0a6ce7a2e5326eec28d24b31393b95820e6d75b08bd572b4c8079", func := "calliope/calliopelaw33.OscSums", spec := "oscSums", apart := false, narrowed := true }
def OscSumsUptoSaid : Prop := oscSumsUptoRow.holds Try.pinned (OpenSpec.upto oscSumsSpec)

end Rows
end Go.Proofs.Ytgmlibigknnbmaa
