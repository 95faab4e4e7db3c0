/-
  No cell of these rows narrows 'for every input' (looked for: loops, veiled, ifaces, maps, wideKeys, modest, calm, conditions, laid).
  DERIVED. THE GIVEN ROWS OF THIS SEAT. 3 by the template 'for every input the law returns true; each argument reads behind the call as it read before'; 0 by the template 'total and deterministic' (their statements: YthofmhnbncopjaaTotals.lean).
  GIVEN WITH THE SEED: the statements are not yours to turn. If you find one false, say at which input.
  Laid BY PROGRAM, IN A SANDBOX (cutbox-rows.mjs): the forced cells as the released guide's own fill.sh prints them over the translation 09d54cda13b91d22… (all of the seat's roots in one cut). By AI agents, Wed Nov 11 2026. No macro, syntax, notation, axiom, sorry.
-/
import Derived.Test.YthofmhnbncopjaaChecked
import GoSem.Claim
import GoSem.ClaimJoined
import GoSem.ClaimMapViews
import Derived.JoinedTies
import Derived.KernelRfl
namespace Go.Proofs.Ythofmhnbncopjaa
/- THE CELL 'sum', in the pinned program and in every row, IS THE sha256 OF THE DUMP (.gsa) THAT YthofmhnbncopjaaProg.lean LOADS. Nothing in Lean hashes anything: it is a label: what it is worth is what the hold of that sum in a sandbox is worth. -/
noncomputable def Try.pinned : Pinned := { name := "ythofmhnbncopjaa", sum := "09d54cda13b91d22b355438b35e58b166824ee08ed675c37817889022057c936", checked := Try.checked }
namespace Rows
def none {H : Type} : Left H := { results := [], args := [] }

/-- 'calliopelaw19.VeilNobody': WHATEVER THE INPUT: true; the input reads as it did. -/
def veilNobodySpec : ChangeSpec := { name := "veilNobody", fn := fun _ => fun
  | [d] => { results := [.lit (.bool true)], args := [d] }
  | _ => none }
def veilNobodyRow : OpenClaim := { program := "ythofmhnbncopjaa", sum := "09d54cda13b91d22b355438b35e58b166824ee08ed675c37817889022057c936", func := "calliope/calliopelaw19.VeilNobody", spec := "veilNobody", apart := false }
def VeilNobodySaid : Prop := veilNobodyRow.holds Try.pinned (OpenSpec.ofChange veilNobodySpec)

/-- ITS FALSE NEIGHBOUR: 'it returns false'. Refute it at one input. -/
def veilNobodyWrong : ChangeSpec := { name := "veilNobody", fn := fun _ => fun
  | [d] => { results := [.lit (.bool false)], args := [d] }
  | _ => none }
def VeilNobodyWrongFalsely : Prop := veilNobodyRow.holds Try.pinned (OpenSpec.ofChange veilNobodyWrong)

/-- 'calliopelaw19.VeilPlays': WHATEVER THE INPUT: true; the input reads as it did. -/
def veilPlaysSpec : ChangeSpec := { name := "veilPlays", fn := fun _ => fun
  | [d] => { results := [.lit (.bool true)], args := [d] }
  | _ => none }
def veilPlaysRow : OpenClaim := { program := "ythofmhnbncopjaa", sum := "09d54cda13b91d22b355438b35e58b166824ee08ed675c37817889022057c936", func := "calliope/calliopelaw19.VeilPlays", spec := "veilPlays", apart := false }
def VeilPlaysSaid : Prop := veilPlaysRow.holds Try.pinned (OpenSpec.ofChange veilPlaysSpec)

/-- ITS FALSE NEIGHBOUR: 'it returns false'. Refute it at one input. -/
def veilPlaysWrong : ChangeSpec := { name := "veilPlays", fn := fun _ => fun
  | [d] => { results := [.lit (.bool false)], args := [d] }
  | _ => none }
def VeilPlaysWrongFalsely : Prop := veilPlaysRow.holds Try.pinned (OpenSpec.ofChange veilPlaysWrong)

/-- 'calliopelaw19.VeilRows': WHATEVER THE INPUT: true; the input reads as it did. -/
def veilRowsSpec : ChangeSpec := { name := "veilRows", fn := fun _ => fun
  | [d1, d2] => { results := [.lit (.bool true)], args := [d1, d2] }
  | _ => none }
def veilRowsRow : OpenClaim := { program := "ythofmhnbncopjaa", sum := "09d54cda13b91d22b355438b35e58b166824ee08ed675c37817889022057c936", func := "calliope/calliopelaw19.VeilRows", spec := "veilRows", apart := false }
def VeilRowsSaid : Prop := veilRowsRow.holds Try.pinned (OpenSpec.ofChange veilRowsSpec)

/-- ITS FALSE NEIGHBOUR: 'it returns false'. Refute it at one input. -/
def veilRowsWrong : ChangeSpec := { name := "veilRows", fn := fun _ => fun
  | [d1, d2] => { results := [.lit (.bool false)], args := [d1, d2] }
  | _ => none }
def VeilRowsWrongFalsely : Prop := veilRowsRow.holds Try.pinned (OpenSpec.ofChange veilRowsWrong)

/- THE SECOND FORM. 'bulk': how many values and letters a reading holds, each counted each time it is reached (what is shared counts as often as it is met; a slice's spare places count too). A statement '..UptoSaid' is the law's where the arguments, and the package variables that the reading takes, are together of bulk at most 1048576: NARROWER than '..Said'. Prove '..Said' where nothing that the law and all that it calls make is longer than what came in: it says more and counts as full. Else prove '..UptoSaid'. A law counts once. -/
mutual
def uptoBulk {H : Type} : DataW H → Nat
  | .lit (.string bytes) => bytes.length + 1
  | .lit _ => 1
  | .nil => 1
  | .ptr d => uptoBulk d + 1
  | .slice elems spare => uptoBulkAll elems + uptoBulkAll spare + 1
  | .agg parts => uptoBulkAll parts + 1
  | .iface _ d => uptoBulk d + 1
  | .map entries => uptoBulkEntries entries + 1
  | .held _ => 1
def uptoBulkAll {H : Type} : List (DataW H) → Nat
  | [] => 0
  | d :: r => uptoBulk d + uptoBulkAll r
def uptoBulkEntries {H : Type} : List (Lit × DataW H) → Nat
  | [] => 0
  | x :: r => uptoBulkEntry x + uptoBulkEntries r
def uptoBulkEntry {H : Type} : Lit × DataW H → Nat
  | (.string bytes, d) => bytes.length + uptoBulk d + 1
  | (_, d) => uptoBulk d + 1
 end
def uptoSmall : (H : Type) → List (DataW H) → Bool := fun _ ds => decide (uptoBulkAll ds ≤ 1048576)
def OpenSpec.upto (s : _root_.Go.ChangeSpec) : _root_.Go.OpenSpec := { _root_.Go.OpenSpec.ofChange s with cond := some uptoSmall }

/-- 'calliopelaw19.VeilNobody', WHERE WHAT IT READS IS OF BULK AT MOST 1048576: true; the input reads as it did. -/
def veilNobodyUptoRow : OpenClaim := { program := "ythofmhnbncopjaa", sum := "09d54cda13b91d22b355438b35e58b166824ee08ed675c37817889022057c936", func := "calliope/calliopelaw19.VeilNobody", spec := "veilNobody", apart := false, narrowed := true }
def VeilNobodyUptoSaid : Prop := veilNobodyUptoRow.holds Try.pinned (OpenSpec.upto veilNobodySpec)

/-- 'calliopelaw19.VeilPlays', WHERE WHAT IT READS IS OF BULK AT MOST 1048576: true; the input reads as it did. -/
def veilPlaysUptoRow : OpenClaim := { program := "ythofmhnbncopjaa", sum := "09d54cda13b91d22b355438b35e58b166824ee08ed675c37817889022057c936", func := "calliope/calliopelaw19.VeilPlays", spec := "veilPlays", apart := false, narrowed := true }
def VeilPlaysUptoSaid : Prop := veilPlaysUptoRow.holds Try.pinned (OpenSpec.upto veilPlaysSpec)

/-- 'calliopelaw19.VeilRows', WHERE WHAT IT READS IS OF BULK AT MOST 1048576: true; the input reads as it did. -/
def veilRowsUptoRow : OpenClaim := { program := "ythofmhnbncopjaa", sum := "09d54cda13b91d22b355438b35e58b166824ee08ed675c37817889022057c936", func := "calliope/calliopelaw19.VeilRows", spec := "veilRows", apart := false, narrowed := true }
def VeilRowsUptoSaid : Prop := veilRowsUptoRow.holds Try.pinned (OpenSpec.upto veilRowsSpec)

end Rows
end Go.Proofs.Ythofmhnbncopjaa
