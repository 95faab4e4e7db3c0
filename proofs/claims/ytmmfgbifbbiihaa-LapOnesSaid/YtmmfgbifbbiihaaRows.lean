/-
  No cell of these rows narrows 'for every input' (looked for: loops, veiled, ifaces, maps, wideKeys, modest, calm, conditions, laid).
  DERIVED. THE GIVEN ROWS OF THIS SEAT. 5 by the template 'for every input the law returns true; each argument reads behind the call as it read before'; 0 by the template 'total and deterministic' (their statements: YtmmfgbifbbiihaaTotals.lean).
  GIVEN WITH THE SEED: the statements are not yours to turn. If you find one false, say at which input.
  Laid BY PROGRAM, IN A SANDBOX (cutbox-rows.mjs): the forced cells as the released guide's own fill.sh prints them over the translation 035db6cd4b7f9997… (all of the seat's roots in one cut). By AI agents, Wed Nov 11 2026. No macro, syntax, notation, axiom, sorry.
-/
import Derived.Test.YtmmfgbifbbiihaaChecked
import GoSem.Claim
import GoSem.ClaimJoined
import GoSem.ClaimMapViews
import Derived.JoinedTies
import Derived.KernelRfl
namespace Go.Proofs.Ytmmfgbifbbiihaa
/- THE CELL 'sum', in the pinned program and in every row, IS THE sha256 OF THE DUMP (.gsa) THAT YtmmfgbifbbiihaaProg.lean LOADS. Nothing in Lean hashes anything: it is a label: what it is worth is what the hold of that sum in a sandbox is worth. -/
noncomputable def Try.pinned : Pinned := { name := "ytmmfgbifbbiihaa", sum := "035db6cd4b7f99971b9ded6888f2adf2d7bd732f2b5baf9b58da3da69718d37d", checked := Try.checked }
namespace Rows
def none {H : Type} : Left H := { results := [], args := [] }

/-- 'calliopelaw08.LapCounts': WHATEVER THE INPUT: true; the input reads as it did. -/
def lapCountsSpec : ChangeSpec := { name := "lapCounts", fn := fun _ => fun
  | [d] => { results := [.lit (.bool true)], args := [d] }
  | _ => none }
def lapCountsRow : OpenClaim := { program := "ytmmfgbifbbiihaa", sum := "035db6cd4b7f99971b9ded6888f2adf2d7bd732f2b5baf9b58da3da69718d37d", func := "calliope/calliopelaw08.LapCounts", spec := "lapCounts", apart := false }
def LapCountsSaid : Prop := lapCountsRow.holds Try.pinned (OpenSpec.ofChange lapCountsSpec)

/-- ITS FALSE NEIGHBOUR: 'it returns false'. Refute it at one input. -/
def lapCountsWrong : ChangeSpec := { name := "lapCounts", fn := fun _ => fun
  | [d] => { results := [.lit (.bool false)], args := [d] }
  | _ => none }
def LapCountsWrongFalsely : Prop := lapCountsRow.holds Try.pinned (OpenSpec.ofChange lapCountsWrong)

/-- 'calliopelaw08.LapBlocks': WHATEVER THE INPUT: true; the input reads as it did. -/
def lapBlocksSpec : ChangeSpec := { name := "lapBlocks", fn := fun _ => fun
  | [d1, d2] => { results := [.lit (.bool true)], args := [d1, d2] }
  | _ => none }
def lapBlocksRow : OpenClaim := { program := "ytmmfgbifbbiihaa", sum := "035db6cd4b7f99971b9ded6888f2adf2d7bd732f2b5baf9b58da3da69718d37d", func := "calliope/calliopelaw08.LapBlocks", spec := "lapBlocks", apart := false }
def LapBlocksSaid : Prop := lapBlocksRow.holds Try.pinned (OpenSpec.ofChange lapBlocksSpec)

/-- ITS FALSE NEIGHBOUR: 'it returns false'. Refute it at one input. -/
def lapBlocksWrong : ChangeSpec := { name := "lapBlocks", fn := fun _ => fun
  | [d1, d2] => { results := [.lit (.bool false)], args := [d1, d2] }
  | _ => none }
def LapBlocksWrongFalsely : Prop := lapBlocksRow.holds Try.pinned (OpenSpec.ofChange lapBlocksWrong)

/-- 'calliopelaw08.LapSpectra': WHATEVER THE INPUT: true; the input reads as it did. -/
def lapSpectraSpec : ChangeSpec := { name := "lapSpectra", fn := fun _ => fun
  | [d1, d2] => { results := [.lit (.bool true)], args := [d1, d2] }
  | _ => none }
def lapSpectraRow : OpenClaim := { program := "ytmmfgbifbbiihaa", sum := "035db6cd4b7f99971b9ded6888f2adf2d7bd732f2b5baf9b58da3da69718d37d", func := "calliope/calliopelaw08.LapSpectra", spec := "lapSpectra", unfollowed := true, recurses := true, apart := false }
def LapSpectraSaid : Prop := lapSpectraRow.holds Try.pinned (OpenSpec.ofChange lapSpectraSpec)

/-- ITS FALSE NEIGHBOUR: 'it returns false'. Refute it at one input. -/
def lapSpectraWrong : ChangeSpec := { name := "lapSpectra", fn := fun _ => fun
  | [d1, d2] => { results := [.lit (.bool false)], args := [d1, d2] }
  | _ => none }
def LapSpectraWrongFalsely : Prop := lapSpectraRow.holds Try.pinned (OpenSpec.ofChange lapSpectraWrong)

/-- 'calliopelaw08.LapOnes': WHATEVER THE INPUT: true; the input reads as it did. -/
def lapOnesSpec : ChangeSpec := { name := "lapOnes", fn := fun _ => fun
  | [d1, d2, d3] => { results := [.lit (.bool true)], args := [d1, d2, d3] }
  | _ => none }
def lapOnesRow : OpenClaim := { program := "ytmmfgbifbbiihaa", sum := "035db6cd4b7f99971b9ded6888f2adf2d7bd732f2b5baf9b58da3da69718d37d", func := "calliope/calliopelaw08.LapOnes", spec := "lapOnes", unfollowed := true, recurses := true, apart := false }
def LapOnesSaid : Prop := lapOnesRow.holds Try.pinned (OpenSpec.ofChange lapOnesSpec)

/-- ITS FALSE NEIGHBOUR: 'it returns false'. Refute it at one input. -/
def lapOnesWrong : ChangeSpec := { name := "lapOnes", fn := fun _ => fun
  | [d1, d2, d3] => { results := [.lit (.bool false)], args := [d1, d2, d3] }
  | _ => none }
def LapOnesWrongFalsely : Prop := lapOnesRow.holds Try.pinned (OpenSpec.ofChange lapOnesWrong)

/-- 'calliopelaw08.LapBack': WHATEVER THE INPUT: true; the input reads as it did. -/
def lapBackSpec : ChangeSpec := { name := "lapBack", fn := fun _ => fun
  | [d1, d2] => { results := [.lit (.bool true)], args := [d1, d2] }
  | _ => none }
def lapBackRow : OpenClaim := { program := "ytmmfgbifbbiihaa", sum := "035db6cd4b7f99971b9ded6888f2adf2d7bd732f2b5baf9b58da3da69718d37d", func := "calliope/calliopelaw08.LapBack", spec := "lapBack", unfollowed := true, recurses := true, apart := false }
def LapBackSaid : Prop := lapBackRow.holds Try.pinned (OpenSpec.ofChange lapBackSpec)

/-- ITS FALSE NEIGHBOUR: 'it returns false'. Refute it at one input. -/
def lapBackWrong : ChangeSpec := { name := "lapBack", fn := fun _ => fun
  | [d1, d2] => { results := [.lit (.bool false)], args := [d1, d2] }
  | _ => none }
def LapBackWrongFalsely : Prop := lapBackRow.holds Try.pinned (OpenSpec.ofChange lapBackWrong)

/- THE SECOND FORM. 'bulk': how many values and letters a reading holds, each counted each time it is reached (what is shared counts as often as it is met; a slice's spare places count too). A statement '..UptoSaid' is the law's where the arguments, and the package variables that the reading takes, are together of bulk at most 1048576: NARROWER than '..Said'. Prove '..Said' where nothing that the law and all that it calls make is longer than what came in: it says more and counts as full. Else prove '..UptoSaid'. A law counts once. -/
mutual
def uptoBulk {H : Type} : DataW H → Nat
  | .lit (.string bytes) => bytes.length + 1
  | .lit _ => 1
  | .nil => 1
  | .ptr d => uptoBulk d + 1
  | .slice elems spare => uptoBulkAll elems + uptoBulkAll spare + 1
  | .agg parts => uptoBulkAll parts + 1
  | .iface _ d => uptoBulk d + 1
  | .map entries => uptoBulkEntries entries + 1
  | .held _ => 1
def uptoBulkAll {H : Type} : List (DataW H) → Nat
  | [] => 0
  | d :: r => uptoBulk d + uptoBulkAll r
def uptoBulkEntries {H : Type} : List (Lit × DataW H) → Nat
  | [] => 0
  | x :: r => uptoBulkEntry x + uptoBulkEntries r
def uptoBulkEntry {H : Type} : Lit × DataW H → Nat
  | (.string bytes, d) => bytes.length + uptoBulk d + 1
  | (_, d) => uptoBulk d + 1
 end
def uptoSmall : (H : Type) → List (DataW H) → Bool := fun _ ds => decide (uptoBulkAll ds ≤ 1048576)
def OpenSpec.upto (s : _root_.Go.ChangeSpec) : _root_.Go.OpenSpec := { _root_.Go.OpenSpec.ofChange s with cond := some uptoSmall }

/-- 'calliopelaw08.LapCounts', WHERE WHAT IT READS IS OF BULK AT MOST 1048576: true; the input reads as it did. -/
def lapCountsUptoRow : OpenClaim := { program := "ytmmfgbifbbiihaa", sum := "035db6cd4b7f99971b9ded6888f2adf2d7bd732f2b5baf9b58da3da69718d37d", func := "calliope/calliopelaw08.LapCounts", spec := "lapCounts", apart := false, narrowed := true }
def LapCountsUptoSaid : Prop := lapCountsUptoRow.holds Try.pinned (OpenSpec.upto lapCountsSpec)

/-- 'calliopelaw08.LapBlocks', WHERE WHAT IT READS IS OF BULK AT MOST 1048576: true; the input reads as it did. -/
def lapBlocksUptoRow : OpenClaim := { program := "ytmmfgbifbbiihaa", sum := "035db6cd4b7f99971b9ded6888f2adf2d7bd732f2b5baf9b58da3da69718d37d", func := "calliope/calliopelaw08.LapBlocks", spec := "lapBlocks", apart := false, narrowed := true }
def LapBlocksUptoSaid : Prop := lapBlocksUptoRow.holds Try.pinned (OpenSpec.upto lapBlocksSpec)

/-- 'calliopelaw08.LapSpectra', WHERE WHAT IT READS IS OF BULK AT MOST 1048576: true; the input reads as it did. -/
def lapSpectraUptoRow : OpenClaim := { program := "ytmmfgbifbbiihaa", sum := "035db6cd4b7f99971b9ded6888f2adf2d7bd732f2b5baf9b58da3da69718d37d", func := "calliope/calliopelaw08.LapSpectra", spec := "lapSpectra", unfollowed := true, recurses := true, apart := false, narrowed := true }
def LapSpectraUptoSaid : Prop := lapSpectraUptoRow.holds Try.pinned (OpenSpec.upto lapSpectraSpec)

/-- 'calliopelaw08.LapOnes', WHERE WHAT IT READS IS OF BULK AT MOST 1048576: true; the input reads as it did. -/
def lapOnesUptoRow : OpenClaim := { program := "ytmmfgbifbbiihaa", sum := "035db6cd4b7f99971b9ded6888f2adf2d7bd732f2b5baf9b58da3da69718d37d", func := "calliope/calliopelaw08.LapOnes", spec := "lapOnes", unfollowed := true, recurses := true, apart := false, narrowed := true }
def LapOnesUptoSaid : Prop := lapOnesUptoRow.holds Try.pinned (OpenSpec.upto lapOnesSpec)

/-- 'calliopelaw08.LapBack', WHERE WHAT IT READS IS OF BULK AT MOST 1048576: true; the input reads as it did. -/
def lapBackUptoRow : OpenClaim := { program := "ytmmfgbifbbiihaa", sum := "035db6cd4b7f99971b9ded6888f2adf2d7bd732f2b5baf9b58da3da69718d37d", func := "calliope/calliopelaw08.LapBack", spec := "lapBack", unfollowed := true, recurses := true, apart := false, narrowed := true }
def LapBackUptoSaid : Prop := lapBackUptoRow.holds Try.pinned (OpenSpec.upto lapBackSpec)

end Rows
end Go.Proofs.Ytmmfgbifbbiihaa
