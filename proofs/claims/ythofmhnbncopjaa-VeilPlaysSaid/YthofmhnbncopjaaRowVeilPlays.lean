/-
  The row of the law VeilPlays: its arguments read as the abstract machine's values and rows, the walk answered by the machine. Conditions: none.
-/
import Derived.Test.YthofmhnbncopjaaRows
import Derived.WalkKit
import Derived.Test.YthofmhnbncopjaaVeilQ
import Derived.Test.YthofmhnbncopjaaSx3
import Derived.ProofKit
import Derived.OpenShut
import Derived.ChangeMaps5
namespace Go.Proofs.Ythofmhnbncopjaa.veilPlays
open Go.ChangeShapes Go.WideShapes Go.ChangeAt Go.RowKit
set_option linter.unusedVariables false

theorem own : ownKnob Try.prog.godebug = none := by kernel_rfl
theorem laid : laidOutB Try.prog = true := by kernel_rfl
theorem kinds : (Try.f4.params.toList.all fun t => Try.prog.readableRec t && decide (t < Try.prog.types.size)) = true := by kernel_rfl
theorem kind (t : TypeId) (ht : t ∈ Try.f4.params.toList) : Try.prog.readableRec t = true ∧ t < Try.prog.types.size := by
  have := List.all_eq_true.1 kinds t ht
  simpa using this

set_option maxRecDepth 100000 in
theorem lifted (os : Os) (started : os.Started) (H : Type) (enc : TypeId × Value → H) :
    ReturnsInHanded {} Try.checked os 4 .any (Rows.veilPlaysSpec.pre6 enc Try.prog Try.f4 Rows.veilPlaysRow.domain false) (Rows.veilPlaysSpec.post enc Try.prog Try.f4 false true false false) := by
  refine returnsInHanded_of_change (C := Try.checked) own started (by kernel_rfl) Try.func4
    (ChangeSpec.witness6 (enc := enc) (C := Try.checked) false ⟨#[], #[(.slice none 0 0)], []⟩ 8 (by kernel_rfl) (by kernel_rfl) (by kernel_rfl) (by kernel_rfl)) ?_
  intro W base args ds gs before hval0 hW hcnd _
  have hval : ∀ (j : Nat) t v, Try.f4.params[j]? = some t → args[j]? = some v → Value.okWide Try.prog W .any base t v := hval0
  have hW' := hW
  obtain ⟨p, q, hA0, hV, rfl, hfz, hnd⟩ := hW
  have hA : DataW.TrodAll enc Try.prog W 0 (fun _ => true) true Try.f4.params.toList args.toList ds p := hA0
  rw [Try.params4] at hA hval
  obtain ⟨v0, vs0, d0, ds0, p0, q0, hargs, rfl, rfl, h0, r0⟩ := trodAll_cons hA
  obtain ⟨rfl, rfl, rfl⟩ := trodAll_nil r0
  obtain rfl : args = #[v0] := by cases args; simp_all
  obtain ⟨rfl, rfl⟩ := trodVars_none hV
  clear hval0 hargs
  have fin : (Calls Try.prog 4 #[v0] W fun e w' => e = .returned (.bool true) ∧ Below W.heap.size W w') → Calls Try.prog 4 #[v0] W fun e W' => ∃ v, e = .returned v ∧ Rows.veilPlaysSpec.post enc Try.prog Try.f4 false true false false W #[v0] v W' := by
    intro hw
    refine hw.mono fun e W' ⟨he, hg⟩ => ?_
    subst he
    exact ⟨_, rfl, Sx.post_of_below (pv := []) hW' (fun _ _ _ => (trodAll_cons_mk (shut_bool Try.underlying4 _) trodAll_mk0)) (fun sp hsp => Sx.again_all laid hg kind hA0 (fun x hx => hsp x (List.mem_append_left _ hx))) (fun _ _ => rfl) rfl
      hg (ok_one (by kernel_rfl) rfl (okWide_bool_mk Try.underlying4 _))⟩
  refine fin ?_
  clear fin hA0 hW' hcnd hfz hnd
  obtain ⟨y0, y0', y0'', hy0⟩ := okWide_slice Try.underlying37 (hval 0 37 v0 rfl rfl)
  have hone0 : v0.cells.toList = [v0] := by rw [hy0]; rfl
  clear hy0
  obtain ⟨l0, n0, hl0, hm0, hw0, hv0⟩ := Sx.open_nest (ks := [.c (.int .i64), .c (.int .i64), .c (.int .i64), .c (.int .i64), .c (.int .i64), .si .i64 2, .c (.int .i64), .c (.int .i64), .c (.int .i64), .c (.int .i64), .c (.int .i64), .c (.int .i64), .c (.int .i64), .c (.int .i64), .c (.int .i64), .c (.int .i64), .c (.int .i64), .c (.int .i64), .c (.int .i64), .c (.int .i64), .c (.int .i64), .c (.int .i64), .c (.int .i64), .c (.int .i64), .c (.int .i64), .c (.int .i64), .c (.int .i64), .c (.int .i64), .c (.int .i64), .c (.int .i64)]) (cts := (Sx.cellsT Try.prog 4 41).getD []) Try.underlying37 (by kernel_rfl) (by kernel_rfl) (by decide) (fun _ => rfl) hone0 h0
  exact Sx.law_rows (vs := [v0]) (rows := []) tabOk (fun p hp => by cases hp)
    ((ev_plays l0 n0 (Nat.le_of_eq (Eq.symm hl0))).choose_spec) ⟨_, _, rfl, hv0, rfl⟩

theorem over : Rows.veilPlaysRow.holds Try.pinned (OpenSpec.ofChange Rows.veilPlaysSpec) :=
  OpenClaim.holds_of_wide 4 Try.f4 rfl rfl rfl rfl rfl rfl rfl ⟨rfl, rfl, rfl, rfl, rfl⟩ rfl rfl rfl rfl rfl (by kernel_rfl) Try.func4 (by kernel_rfl)
    (of_decide_eq_true (by kernel_rfl)) (by unfold Func.isWrapper; first | (rw [if_pos (by decide +kernel)]; kernel_rfl) | (rw [if_neg (by decide +kernel)]; exact ⟨rfl, rfl⟩))
    (fun os started H enc _ => lifted os started H enc)

theorem proved : Rows.VeilPlaysSaid :=
  over
#print axioms proved
end Go.Proofs.Ythofmhnbncopjaa.veilPlays
