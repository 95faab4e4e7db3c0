/-
  No cell of these rows narrows 'for every input' (looked for: loops, veiled, ifaces, maps, wideKeys, modest, calm, conditions, laid).
  DERIVED. THE GIVEN ROWS OF THIS SEAT. 4 by the template 'for every input the law returns true; each argument reads behind the call as it read before'; 0 by the template 'total and deterministic' (their statements: YtdngjlgbebmbhaaTotals.lean).
  GIVEN WITH THE SEED: the statements are not yours to turn. If you find one false, say at which input.
  Laid BY PROGRAM, IN A SANDBOX (cutbox-rows.mjs): the forced cells as the released guide's own fill.sh prints them over the translation 421a77b6e73d42e2… (all of the seat's roots in one cut). By AI agents, Wed Nov 11 2026. No macro, syntax, notation, axiom, sorry.
-/
import Derived.Test.YtdngjlgbebmbhaaChecked
import GoSem.Claim
import GoSem.ClaimJoined
import GoSem.ClaimMapViews
import Derived.JoinedTies
import Derived.KernelRfl
namespace Go.Proofs.Ytdngjlgbebmbhaa
/- THE CELL 'sum', in the pinned program and in every row, IS THE sha256 OF THE DUMP (.gsa) THAT YtdngjlgbebmbhaaProg.lean LOADS. Nothing in Lean hashes anything: it is a label: what it is worth is what the hold of that sum in a sandbox is worth. -/
noncomputable def Try.pinned : Pinned := { name := "ytdngjlgbebmbhaa", sum := "421a77b6e73d42e2c15d955f69652e9d078b44ac699fc5bdf075dc68fca0c987", checked := Try.checked }
namespace Rows
def none {H : Type} : Left H := { results := [], args := [] }

/-- 'calliopelaw10.FrameSames': WHATEVER THE INPUT: true; the input reads as it did. -/
def frameSamesSpec : ChangeSpec := { name := "frameSames", fn := fun _ => fun
  | [d1, d2] => { results := [.lit (.bool true)], args := [d1, d2] }
  | _ => none }
def frameSamesRow : OpenClaim := { program := "ytdngjlgbebmbhaa", sum := "421a77b6e73d42e2c15d955f69652e9d078b44ac699fc5bdf075dc68fca0c987", func := "calliope/calliopelaw10.FrameSames", spec := "frameSames", apart := false }
def FrameSamesSaid : Prop := frameSamesRow.holds Try.pinned (OpenSpec.ofChange frameSamesSpec)

/-- ITS FALSE NEIGHBOUR: 'it returns false'. Refute it at one input. -/
def frameSamesWrong : ChangeSpec := { name := "frameSames", fn := fun _ => fun
  | [d1, d2] => { results := [.lit (.bool false)], args := [d1, d2] }
  | _ => none }
def FrameSamesWrongFalsely : Prop := frameSamesRow.holds Try.pinned (OpenSpec.ofChange frameSamesWrong)

/-- 'calliopelaw10.FrameSpectra': WHATEVER THE INPUT: true; the input reads as it did. -/
def frameSpectraSpec : ChangeSpec := { name := "frameSpectra", fn := fun _ => fun
  | [d] => { results := [.lit (.bool true)], args := [d] }
  | _ => none }
def frameSpectraRow : OpenClaim := { program := "ytdngjlgbebmbhaa", sum := "421a77b6e73d42e2c15d955f69652e9d078b44ac699fc5bdf075dc68fca0c987", func := "calliope/calliopelaw10.FrameSpectra", spec := "frameSpectra", apart := false }
def FrameSpectraSaid : Prop := frameSpectraRow.holds Try.pinned (OpenSpec.ofChange frameSpectraSpec)

/-- ITS FALSE NEIGHBOUR: 'it returns false'. Refute it at one input. -/
def frameSpectraWrong : ChangeSpec := { name := "frameSpectra", fn := fun _ => fun
  | [d] => { results := [.lit (.bool false)], args := [d] }
  | _ => none }
def FrameSpectraWrongFalsely : Prop := frameSpectraRow.holds Try.pinned (OpenSpec.ofChange frameSpectraWrong)

/-- 'calliopelaw10.FrameBytes': WHATEVER THE INPUT: true; the input reads as it did. -/
def frameBytesSpec : ChangeSpec := { name := "frameBytes", fn := fun _ => fun
  | [d1, d2] => { results := [.lit (.bool true)], args := [d1, d2] }
  | _ => none }
def frameBytesRow : OpenClaim := { program := "ytdngjlgbebmbhaa", sum := "421a77b6e73d42e2c15d955f69652e9d078b44ac699fc5bdf075dc68fca0c987", func := "calliope/calliopelaw10.FrameBytes", spec := "frameBytes", apart := false }
def FrameBytesSaid : Prop := frameBytesRow.holds Try.pinned (OpenSpec.ofChange frameBytesSpec)

/-- ITS FALSE NEIGHBOUR: 'it returns false'. Refute it at one input. -/
def frameBytesWrong : ChangeSpec := { name := "frameBytes", fn := fun _ => fun
  | [d1, d2] => { results := [.lit (.bool false)], args := [d1, d2] }
  | _ => none }
def FrameBytesWrongFalsely : Prop := frameBytesRow.holds Try.pinned (OpenSpec.ofChange frameBytesWrong)

/-- 'calliopelaw10.FrameReads': WHATEVER THE INPUT: true; the input reads as it did. -/
def frameReadsSpec : ChangeSpec := { name := "frameReads", fn := fun _ => fun
  | [d1, d2] => { results := [.lit (.bool true)], args := [d1, d2] }
  | _ => none }
def frameReadsRow : OpenClaim := { program := "ytdngjlgbebmbhaa", sum := "421a77b6e73d42e2c15d955f69652e9d078b44ac699fc5bdf075dc68fca0c987", func := "calliope/calliopelaw10.FrameReads", spec := "frameReads", apart := false }
def FrameReadsSaid : Prop := frameReadsRow.holds Try.pinned (OpenSpec.ofChange frameReadsSpec)

/-- ITS FALSE NEIGHBOUR: 'it returns false'. Refute it at one input. -/
def frameReadsWrong : ChangeSpec := { name := "frameReads", fn := fun _ => fun
  | [d1, d2] => { results := [.lit (.bool false)], args := [d1, d2] }
  | _ => none }
def FrameReadsWrongFalsely : Prop := frameReadsRow.holds Try.pinned (OpenSpec.ofChange frameReadsWrong)

/- THE SECOND FORM. 'bulk': how many values and letters a reading holds, each counted each time it is reached (what is shared counts as often as it is met; a slice's spare places count too). A statement '..UptoSaid' is the law's where the arguments, and the package variables that the reading takes, are together of bulk at most 1048576: NARROWER than '..Said'. Prove '..Said' where nothing that the law and all that it calls make is longer than what came in: it says more and counts as full. Else prove '..UptoSaid'. A law counts once. -/
mutual
def uptoBulk {H : Type} : DataW H → Nat
  | .lit (.string bytes) => bytes.length + 1
  | .lit _ => 1
  | .nil => 1
  | .ptr d => uptoBulk d + 1
  | .slice elems spare => uptoBulkAll elems + uptoBulkAll spare + 1
  | .agg parts => uptoBulkAll parts + 1
  | .iface _ d => uptoBulk d + 1
  | .map entries => uptoBulkEntries entries + 1
  | .held _ => 1
def uptoBulkAll {H : Type} : List (DataW H) → Nat
  | [] => 0
  | d :: r => uptoBulk d + uptoBulkAll r
def uptoBulkEntries {H : Type} : List (Lit × DataW H) → Nat
  | [] => 0
  | x :: r => uptoBulkEntry x + uptoBulkEntries r
def uptoBulkEntry {H : Type} : Lit × DataW H → Nat
  | (.string bytes, d) => bytes.length + uptoBulk d + 1
  | (_, d) => uptoBulk d + 1
 end
def uptoSmall : (H : Type) → List (DataW H) → Bool := fun _ ds => decide (uptoBulkAll ds ≤ 1048576)
def OpenSpec.upto (s : _root_.Go.ChangeSpec) : _root_.Go.OpenSpec := { _root_.Go.OpenSpec.ofChange s with cond := some uptoSmall }

/-- 'calliopelaw10.FrameSames', WHERE WHAT IT READS IS OF BULK AT MOST 1048576: true; the input reads as it did. -/
def frameSamesUptoRow : OpenClaim := { program := "ytdngjlgbebmbhaa", sum := "421a77b6e73d42e2c15d955f69652e9d078b44ac699fc5bdf075dc68fca0c987", func := "calliope/calliopelaw10.FrameSames", spec := "frameSames", apart := false, narrowed := true }
def FrameSamesUptoSaid : Prop := frameSamesUptoRow.holds Try.pinned (OpenSpec.upto frameSamesSpec)

/-- 'calliopelaw10.FrameSpectra', WHERE WHAT IT READS IS OF BULK AT MOST 1048576: true; the input reads as it did. -/
def frameSpectraUptoRow : OpenClaim := { program := "ytdngjlgbebmbhaa", sum := "421a77b6e73d42e2c15d955f69652e9d078b44ac699fc5bdf075dc68fca0c987", func := "calliope/calliopelaw10.FrameSpectra", spec := "frameSpectra", apart := false, narrowed := true }
def FrameSpectraUptoSaid : Prop := frameSpectraUptoRow.holds Try.pinned (OpenSpec.upto frameSpectraSpec)

/-- 'calliopelaw10.FrameBytes', WHERE WHAT IT READS IS OF BULK AT MOST 1048576: true; the input reads as it did. -/
def frameBytesUptoRow : OpenClaim := { program := "ytdngjlgbebmbhaa", sum := "421a77b6e73d42e2c15d955f69652e9d078b44ac699fc5bdf075dc68fca0c987", func := "calliope/calliopelaw10.FrameBytes", spec := "frameBytes", apart := false, narrowed := true }
def FrameBytesUptoSaid : Prop := frameBytesUptoRow.holds Try.pinned (OpenSpec.upto frameBytesSpec)

/-- 'calliopelaw10.FrameReads', WHERE WHAT IT READS IS OF BULK AT MOST 1048576: true; the input reads as it did. -/
def frameReadsUptoRow : OpenClaim := { program := "ytdngjlgbebmbhaa", sum := "421a77b6e73d42e2c15d955f69652e9d078b44ac699fc5bdf075dc68fca0c987", func := "calliope/calliopelaw10.FrameReads", spec := "frameReads", apart := false, narrowed := true }
def FrameReadsUptoSaid : Prop := frameReadsUptoRow.holds Try.pinned (OpenSpec.upto frameReadsSpec)

end Rows
end Go.Proofs.Ytdngjlgbebmbhaa
