/-
  No cell of these rows narrows 'for every input' (looked for: loops, veiled, ifaces, maps, wideKeys, modest, calm, conditions, laid).
  DERIVED. THE GIVEN ROWS OF THIS SEAT. 5 by the template 'for every input the law returns true; each argument reads behind the call as it read before'; 0 by the template 'total and deterministic' (their statements: YtmghafpbaigkaaaTotals.lean).
  GIVEN WITH THE SEED: the statements are not yours to turn. If you find one false, say at which input.
  Laid BY PROGRAM, IN A SANDBOX (cutbox-rows.mjs): the forced cells as the released guide's own fill.sh prints them over the translation c5aacac8a9de163c… (all of the seat's roots in one cut). By AI agents, Wed Nov 11 2026. No macro, syntax, notation, axiom, sorry.
-/
import Derived.Test.YtmghafpbaigkaaaChecked
import GoSem.Claim
import GoSem.ClaimJoined
import GoSem.ClaimMapViews
import Derived.JoinedTies
import Derived.KernelRfl
namespace Go.Proofs.Ytmghafpbaigkaaa
/- THE CELL 'sum', in the pinned program and in every row, IS THE sha256 OF THE DUMP (.gsa) THAT YtmghafpbaigkaaaProg.lean LOADS. Nothing in Lean hashes anything: it is a label: what it is worth is what the hold of that sum in a sandbox is worth. -/
noncomputable def Try.pinned : Pinned := { name := "ytmghafpbaigkaaa", sum := "c5aacac8a9de163cfbd60351e3e610d5a09ee247831297fb27aa02e23618ac8b", checked := Try.checked }
namespace Rows
def none {H : Type} : Left H := { results := [], args := [] }

/-- 'calliopelaw40.ViewBars': WHATEVER THE INPUT: true; the input reads as it did. -/
def viewBarsSpec : ChangeSpec := { name := "viewBars", fn := fun _ => fun
  | [d1, d2, d3] => { results := [.lit (.bool true)], args := [d1, d2, d3] }
  | _ => none }
def viewBarsRow : OpenClaim := { program := "ytmghafpbaigkaaa", sum := "c5aacac8a9de163cfbd60351e3e610d5a09ee247831297fb27aa02e23618ac8b", func := "calliope/calliopelaw40.ViewBars", spec := "viewBars", apart := false }
def ViewBarsSaid : Prop := viewBarsRow.holds Try.pinned (OpenSpec.ofChange viewBarsSpec)

/-- ITS FALSE NEIGHBOUR: 'it returns false'. Refute it at one input. -/
def viewBarsWrong : ChangeSpec := { name := "viewBars", fn := fun _ => fun
  | [d1, d2, d3] => { results := [.lit (.bool false)], args := [d1, d2, d3] }
  | _ => none }
def ViewBarsWrongFalsely : Prop := viewBarsRow.holds Try.pinned (OpenSpec.ofChange viewBarsWrong)

/-- 'calliopelaw40.ViewCoarse': WHATEVER THE INPUT: true; the input reads as it did. -/
def viewCoarseSpec : ChangeSpec := { name := "viewCoarse", fn := fun _ => fun
  | [d] => { results := [.lit (.bool true)], args := [d] }
  | _ => none }
def viewCoarseRow : OpenClaim := { program := "ytmghafpbaigkaaa", sum := "c5aacac8a9de163cfbd60351e3e610d5a09ee247831297fb27aa02e23618ac8b", func := "calliope/calliopelaw40.ViewCoarse", spec := "viewCoarse", apart := false }
def ViewCoarseSaid : Prop := viewCoarseRow.holds Try.pinned (OpenSpec.ofChange viewCoarseSpec)

/-- ITS FALSE NEIGHBOUR: 'it returns false'. Refute it at one input. -/
def viewCoarseWrong : ChangeSpec := { name := "viewCoarse", fn := fun _ => fun
  | [d] => { results := [.lit (.bool false)], args := [d] }
  | _ => none }
def ViewCoarseWrongFalsely : Prop := viewCoarseRow.holds Try.pinned (OpenSpec.ofChange viewCoarseWrong)

/-- 'calliopelaw40.ViewUnlike': WHATEVER THE INPUT: true; the input reads as it did. -/
def viewUnlikeSpec : ChangeSpec := { name := "viewUnlike", fn := fun _ => fun
  | [d1, d2] => { results := [.lit (.bool true)], args := [d1, d2] }
  | _ => none }
def viewUnlikeRow : OpenClaim := { program := "ytmghafpbaigkaaa", sum := "c5aacac8a9de163cfbd60351e3e610d5a09ee247831297fb27aa02e23618ac8b", func := "calliope/calliopelaw40.ViewUnlike", spec := "viewUnlike", apart := false }
def ViewUnlikeSaid : Prop := viewUnlikeRow.holds Try.pinned (OpenSpec.ofChange viewUnlikeSpec)

/-- ITS FALSE NEIGHBOUR: 'it returns false'. Refute it at one input. -/
def viewUnlikeWrong : ChangeSpec := { name := "viewUnlike", fn := fun _ => fun
  | [d1, d2] => { results := [.lit (.bool false)], args := [d1, d2] }
  | _ => none }
def ViewUnlikeWrongFalsely : Prop := viewUnlikeRow.holds Try.pinned (OpenSpec.ofChange viewUnlikeWrong)

/-- 'calliopelaw40.ViewBands': WHATEVER THE INPUT: true; the input reads as it did. -/
def viewBandsSpec : ChangeSpec := { name := "viewBands", fn := fun _ => fun
  | [d] => { results := [.lit (.bool true)], args := [d] }
  | _ => none }
def viewBandsRow : OpenClaim := { program := "ytmghafpbaigkaaa", sum := "c5aacac8a9de163cfbd60351e3e610d5a09ee247831297fb27aa02e23618ac8b", func := "calliope/calliopelaw40.ViewBands", spec := "viewBands", apart := false }
def ViewBandsSaid : Prop := viewBandsRow.holds Try.pinned (OpenSpec.ofChange viewBandsSpec)

/-- ITS FALSE NEIGHBOUR: 'it returns false'. Refute it at one input. -/
def viewBandsWrong : ChangeSpec := { name := "viewBands", fn := fun _ => fun
  | [d] => { results := [.lit (.bool false)], args := [d] }
  | _ => none }
def ViewBandsWrongFalsely : Prop := viewBandsRow.holds Try.pinned (OpenSpec.ofChange viewBandsWrong)

/-- 'calliopelaw40.ViewAccounts': WHATEVER THE INPUT: true; the input reads as it did. -/
def viewAccountsSpec : ChangeSpec := { name := "viewAccounts", fn := fun _ => fun
  | [d1, d2, d3] => { results := [.lit (.bool true)], args := [d1, d2, d3] }
  | _ => none }
def viewAccountsRow : OpenClaim := { program := "ytmghafpbaigkaaa", sum := "c5aacac8a9de163cfbd60351e3e610d5a09ee247831297fb27aa02e23618ac8b", func := "calliope/calliopelaw40.ViewAccounts", spec := "viewAccounts", apart := false }
def ViewAccountsSaid : Prop := viewAccountsRow.holds Try.pinned (OpenSpec.ofChange viewAccountsSpec)

/-- ITS FALSE NEIGHBOUR: 'it returns false'. Refute it at one input. -/
def viewAccountsWrong : ChangeSpec := { name := "viewAccounts", fn := fun _ => fun
  | [d1, d2, d3] => { results := [.lit (.bool false)], args := [d1, d2, d3] }
  | _ => none }
def ViewAccountsWrongFalsely : Prop := viewAccountsRow.holds Try.pinned (OpenSpec.ofChange viewAccountsWrong)

/- THE SECOND FORM. 'bulk': how many values and letters a reading holds, each counted each time it is reached (what is shared counts as often as it is met; a slice's spare places count too). A statement '..UptoSaid' is the law's where the arguments, and the package variables that the reading takes, are together of bulk at most 1048576: NARROWER than '..Said'. Prove '..Said' where nothing that the law and all that it calls make is longer than what came in: it says more and counts as full. Else prove '..UptoSaid'. A law counts once. -/
mutual
def uptoBulk {H : Type} : DataW H → Nat
  | .lit (.string bytes) => bytes.length + 1
  | .lit _ => 1
  | .nil => 1
  | .ptr d => uptoBulk d + 1
  | .slice elems spare => uptoBulkAll elems + uptoBulkAll spare + 1
  | .agg parts => uptoBulkAll parts + 1
  | .iface _ d => uptoBulk d + 1
  | .map entries => uptoBulkEntries entries + 1
  | .held _ => 1
def uptoBulkAll {H : Type} : List (DataW H) → Nat
  | [] => 0
  | d :: r => uptoBulk d + uptoBulkAll r
def uptoBulkEntries {H : Type} : List (Lit × DataW H) → Nat
  | [] => 0
  | x :: r => uptoBulkEntry x + uptoBulkEntries r
def uptoBulkEntry {H : Type} : Lit × DataW H → Nat
  | (.string bytes, d) => bytes.length + uptoBulk d + 1
  | (_, d) => uptoBulk d + 1
 end
def uptoSmall : (H : Type) → List (DataW H) → Bool := fun _ ds => decide (uptoBulkAll ds ≤ 1048576)
def OpenSpec.upto (s : _root_.Go.ChangeSpec) : _root_.Go.OpenSpec := { _root_.Go.OpenSpec.ofChange s with cond := some uptoSmall }

/-- 'calliopelaw40.ViewBars', WHERE WHAT IT READS IS OF BULK AT MOST 1048576: true; the input reads as it did. -/
def viewBarsUptoRow : OpenClaim := { program := "ytmghafpbaigkaaa", sum := "c5aacac8a9de163cfbd60351e3e610d5a09ee247831297fb27aa02e23618ac8b", func := "calliope/calliopelaw40.ViewBars", spec := "viewBars", apart := false, narrowed := true }
def ViewBarsUptoSaid : Prop := viewBarsUptoRow.holds Try.pinned (OpenSpec.upto viewBarsSpec)

/-- 'calliopelaw40.ViewCoarse', WHERE WHAT IT READS IS OF BULK AT MOST 1048576: true; the input reads as it did. -/
def viewCoarseUptoRow : OpenClaim := { program := "ytmghafpbaigkaaa", sum := "c5aacac8a9de163cfbd60351e3e610d5a09ee247831297fb27aa02e23618ac8b", func := "calliope/calliopelaw40.ViewCoarse", spec := "viewCoarse", apart := false, narrowed := true }
def ViewCoarseUptoSaid : Prop := viewCoarseUptoRow.holds Try.pinned (OpenSpec.upto viewCoarseSpec)

/-- 'calliopelaw40.ViewUnlike', WHERE WHAT IT READS IS OF BULK AT MOST 1048576: true; the input reads as it did. -/
def viewUnlikeUptoRow : OpenClaim := { program := "ytmghafpbaigkaaa", sum := "c5aacac8a9de163cfbd60351e3e610d5a09ee247831297fb27aa02e23618ac8b", func := "calliope/calliopelaw40.ViewUnlike", spec := "viewUnlike", apart := false, narrowed := true }
def ViewUnlikeUptoSaid : Prop := viewUnlikeUptoRow.holds Try.pinned (OpenSpec.upto viewUnlikeSpec)

/-- 'calliopelaw40.ViewBands', WHERE WHAT IT READS IS OF BULK AT MOST 1048576: true; the input reads as it did. -/
def viewBandsUptoRow : OpenClaim := { program := "ytmghafpbaigkaaa", sum := "c5aacac8a9de163cfbd60351e3e610d5a09ee247831297fb27aa02e23618ac8b", func := "calliope/calliopelaw40.ViewBands", spec := "viewBands", apart := false, narrowed := true }
def ViewBandsUptoSaid : Prop := viewBandsUptoRow.holds Try.pinned (OpenSpec.upto viewBandsSpec)

/-- 'calliopelaw40.ViewAccounts', WHERE WHAT IT READS IS OF BULK AT MOST 1048576: true; the input reads as it did. -/
def viewAccountsUptoRow : OpenClaim := { program := "ytmghafpbaigkaaa", sum := "c5aacac8a9de163cfbd60351e3e610d5a09ee247831297fb27aa02e23618ac8b", func := "calliope/calliopelaw40.ViewAccounts", spec := "viewAccounts", apart := false, narrowed := true }
def ViewAccountsUptoSaid : Prop := viewAccountsUptoRow.holds Try.pinned (OpenSpec.upto viewAccountsSpec)

end Rows
end Go.Proofs.Ytmghafpbaigkaaa
