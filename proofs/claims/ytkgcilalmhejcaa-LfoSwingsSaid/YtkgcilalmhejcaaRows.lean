/-
  No cell of these rows narrows 'for every input' (looked for: loops, veiled, ifaces, maps, wideKeys, modest, calm, conditions, laid).
  DERIVED. THE GIVEN ROWS OF THIS SEAT. 4 by the template 'for every input the law returns true; each argument reads behind the call as it read before'; 0 by the template 'total and deterministic' (their statements: YtkgcilalmhejcaaTotals.lean).
  GIVEN WITH THE SEED: the statements are not yours to turn. If you find one false, say at which input.
  Laid BY PROGRAM, IN A SANDBOX (cutbox-rows.mjs): the forced cells as the released guide's own fill.sh prints them over the translation dce5856dc7043767… (all of the seat's roots in one cut). By AI agents, Wed Nov 11 2026. No macro, syntax, notation, axiom, sorry.
-/
import Derived.Test.YtkgcilalmhejcaaChecked
import GoSem.Claim
import GoSem.ClaimJoined
import GoSem.ClaimMapViews
import Derived.JoinedTies
import Derived.KernelRfl
namespace Go.Proofs.Ytkgcilalmhejcaa
/- THE CELL 'sum', in the pinned program and in every row, IS THE sha256 OF THE DUMP (.gsa) THAT YtkgcilalmhejcaaProg.lean LOADS. Nothing in Lean hashes anything: it is a label: what it is worth is what the hold of that sum in a sandbox is worth. -/
noncomputable def Try.pinned : Pinned := { name := "ytkgcilalmhejcaa", sum := "dce5856dc7043767a45b04cea5274c5cef4159abdf7e25350b2aca16fbe204f5", checked := Try.checked }
namespace Rows
def none {H : Type} : Left H := { results := [], args := [] }

/-- 'calliopelaw41.LfoVolumes': WHATEVER THE INPUT: true; the input reads as it did. -/
def lfoVolumesSpec : ChangeSpec := { name := "lfoVolumes", fn := fun _ => fun
  | [d1, d2, d3] => { results := [.lit (.bool true)], args := [d1, d2, d3] }
  | _ => none }
def lfoVolumesRow : OpenClaim := { program := "ytkgcilalmhejcaa", sum := "dce5856dc7043767a45b04cea5274c5cef4159abdf7e25350b2aca16fbe204f5", func := "calliope/calliopelaw41.LfoVolumes", spec := "lfoVolumes", apart := false }
def LfoVolumesSaid : Prop := lfoVolumesRow.holds Try.pinned (OpenSpec.ofChange lfoVolumesSpec)

/-- ITS FALSE NEIGHBOUR: 'it returns false'. Refute it at one input. -/
def lfoVolumesWrong : ChangeSpec := { name := "lfoVolumes", fn := fun _ => fun
  | [d1, d2, d3] => { results := [.lit (.bool false)], args := [d1, d2, d3] }
  | _ => none }
def LfoVolumesWrongFalsely : Prop := lfoVolumesRow.holds Try.pinned (OpenSpec.ofChange lfoVolumesWrong)

/-- 'calliopelaw41.LfoPitches': WHATEVER THE INPUT: true; the input reads as it did. -/
def lfoPitchesSpec : ChangeSpec := { name := "lfoPitches", fn := fun _ => fun
  | [d1, d2, d3] => { results := [.lit (.bool true)], args := [d1, d2, d3] }
  | _ => none }
def lfoPitchesRow : OpenClaim := { program := "ytkgcilalmhejcaa", sum := "dce5856dc7043767a45b04cea5274c5cef4159abdf7e25350b2aca16fbe204f5", func := "calliope/calliopelaw41.LfoPitches", spec := "lfoPitches", apart := false }
def LfoPitchesSaid : Prop := lfoPitchesRow.holds Try.pinned (OpenSpec.ofChange lfoPitchesSpec)

/-- ITS FALSE NEIGHBOUR: 'it returns false'. Refute it at one input. -/
def lfoPitchesWrong : ChangeSpec := { name := "lfoPitches", fn := fun _ => fun
  | [d1, d2, d3] => { results := [.lit (.bool false)], args := [d1, d2, d3] }
  | _ => none }
def LfoPitchesWrongFalsely : Prop := lfoPitchesRow.holds Try.pinned (OpenSpec.ofChange lfoPitchesWrong)

/-- 'calliopelaw41.LfoNobody': WHATEVER THE INPUT: true; the input reads as it did. -/
def lfoNobodySpec : ChangeSpec := { name := "lfoNobody", fn := fun _ => fun
  | [d] => { results := [.lit (.bool true)], args := [d] }
  | _ => none }
def lfoNobodyRow : OpenClaim := { program := "ytkgcilalmhejcaa", sum := "dce5856dc7043767a45b04cea5274c5cef4159abdf7e25350b2aca16fbe204f5", func := "calliope/calliopelaw41.LfoNobody", spec := "lfoNobody", apart := false }
def LfoNobodySaid : Prop := lfoNobodyRow.holds Try.pinned (OpenSpec.ofChange lfoNobodySpec)

/-- ITS FALSE NEIGHBOUR: 'it returns false'. Refute it at one input. -/
def lfoNobodyWrong : ChangeSpec := { name := "lfoNobody", fn := fun _ => fun
  | [d] => { results := [.lit (.bool false)], args := [d] }
  | _ => none }
def LfoNobodyWrongFalsely : Prop := lfoNobodyRow.holds Try.pinned (OpenSpec.ofChange lfoNobodyWrong)

/-- 'calliopelaw41.LfoSwings': WHATEVER THE INPUT: true; the input reads as it did. -/
def lfoSwingsSpec : ChangeSpec := { name := "lfoSwings", fn := fun _ => fun
  | [d1, d2, d3] => { results := [.lit (.bool true)], args := [d1, d2, d3] }
  | _ => none }
def lfoSwingsRow : OpenClaim := { program := "ytkgcilalmhejcaa", sum := "dce5856dc7043767a45b04cea5274c5cef4159abdf7e25350b2aca16fbe204f5", func := "calliope/calliopelaw41.LfoSwings", spec := "lfoSwings", apart := false }
def LfoSwingsSaid : Prop := lfoSwingsRow.holds Try.pinned (OpenSpec.ofChange lfoSwingsSpec)

/-- ITS FALSE NEIGHBOUR: 'it returns false'. Refute it at one input. -/
def lfoSwingsWrong : ChangeSpec := { name := "lfoSwings", fn := fun _ => fun
  | [d1, d2, d3] => { results := [.lit (.bool false)], args := [d1, d2, d3] }
  | _ => none }
def LfoSwingsWrongFalsely : Prop := lfoSwingsRow.holds Try.pinned (OpenSpec.ofChange lfoSwingsWrong)

/- THE SECOND FORM. 'bulk': how many values and letters a reading holds, each counted each time it is reached (what is shared counts as often as it is met; a slice's spare places count too). A statement '..UptoSaid' is the law's where the arguments, and the package variables that the reading takes, are together of bulk at most 1048576: NARROWER than '..Said'. Prove '..Said' where nothing that the law and all that it calls make is longer than what came in: it says more and counts as full. Else prove '..UptoSaid'. A law counts once. -/
mutual
def uptoBulk {H : Type} : DataW H → Nat
  | .lit (.string bytes) => bytes.length + 1
  | .lit _ => 1
  | .nil => 1
  | .ptr d => uptoBulk d + 1
  | .slice elems spare => uptoBulkAll elems + uptoBulkAll spare + 1
  | .agg parts => uptoBulkAll parts + 1
  | .iface _ d => uptoBulk d + 1
  | .map entries => uptoBulkEntries entries + 1
  | .held _ => 1
def uptoBulkAll {H : Type} : List (DataW H) → Nat
  | [] => 0
  | d :: r => uptoBulk d + uptoBulkAll r
def uptoBulkEntries {H : Type} : List (Lit × DataW H) → Nat
  | [] => 0
  | x :: r => uptoBulkEntry x + uptoBulkEntries r
def uptoBulkEntry {H : Type} : Lit × DataW H → Nat
  | (.string bytes, d) => bytes.length + uptoBulk d + 1
  | (_, d) => uptoBulk d + 1
 end
def uptoSmall : (H : Type) → List (DataW H) → Bool := fun _ ds => decide (uptoBulkAll ds ≤ 1048576)
def OpenSpec.upto (s : _root_.Go.ChangeSpec) : _root_.Go.OpenSpec := { _root_.Go.OpenSpec.ofChange s with cond := some uptoSmall }

/-- 'calliopelaw41.LfoVolumes', WHERE WHAT IT READS IS OF BULK AT MOST 1048576: true; the input reads as it did. -/
def lfoVolumesUptoRow : OpenClaim := { program := "ytkgcilalmhejcaa", sum := "dce5856dc7043767a45b04cea5274c5cef4159abdf7e25350b2aca16fbe204f5", func := "calliope/calliopelaw41.LfoVolumes", spec := "lfoVolumes", apart := false, narrowed := true }
def LfoVolumesUptoSaid : Prop := lfoVolumesUptoRow.holds Try.pinned (OpenSpec.upto lfoVolumesSpec)

/-- 'calliopelaw41.LfoPitches', WHERE WHAT IT READS IS OF BULK AT MOST 1048576: true; the input reads as it did. -/
def lfoPitchesUptoRow : OpenClaim := { program := "ytkgcilalmhejcaa", sum := "dce5856dc7043767a45b04cea5274c5cef4159abdf7e25350b2aca16fbe204f5", func := "calliope/calliopelaw41.LfoPitches", spec := "lfoPitches", apart := false, narrowed := true }
def LfoPitchesUptoSaid : Prop := lfoPitchesUptoRow.holds Try.pinned (OpenSpec.upto lfoPitchesSpec)

/-- 'calliopelaw41.LfoNobody', WHERE WHAT IT READS IS OF BULK AT MOST 1048576: true; the input reads as it did. -/
def lfoNobodyUptoRow : OpenClaim := { program := "ytkgcilalmhejcaa", sum := "dce5856dc7043767a45b04cea5274c5cef4159abdf7e25350b2aca16fbe204f5", func := "calliope/calliopelaw41.LfoNobody", spec := "lfoNobody", apart := false, narrowed := true }
def LfoNobodyUptoSaid : Prop := lfoNobodyUptoRow.holds Try.pinned (OpenSpec.upto lfoNobodySpec)

/-- 'calliopelaw41.LfoSwings', WHERE WHAT IT READS IS OF BULK AT MOST 1048576: true; the input reads as it did. -/
def lfoSwingsUptoRow : OpenClaim := { program := "ytkgcilalmhejcaa", sum := "dce5856dc7043767a45b04cea5274c5cef4159abdf7e25350b2aca16fbe204f5", func := "calliope/calliopelaw41.LfoSwings", spec := "lfoSwings", apart := false, narrowed := true }
def LfoSwingsUptoSaid : Prop := lfoSwingsUptoRow.holds Try.pinned (OpenSpec.upto lfoSwingsSpec)

end Rows
end Go.Proofs.Ytkgcilalmhejcaa
