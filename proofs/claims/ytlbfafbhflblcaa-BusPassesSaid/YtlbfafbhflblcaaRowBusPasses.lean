/-
  The row of the law BusPasses: its arguments read as the abstract machine's values and rows, the walk answered by the machine. Conditions: none.
-/
import Derived.Test.YtlbfafbhflblcaaRows
import Derived.WalkKit
import Derived.Test.YtlbfafbhflblcaaBpz
import Derived.Test.YtlbfafbhflblcaaSx3
import Derived.ProofKit
import Derived.OpenShut
import Derived.ChangeMaps5
namespace Go.Proofs.Ytlbfafbhflblcaa.busPasses
open Go.ChangeShapes Go.WideShapes Go.ChangeAt Go.RowKit
set_option linter.unusedVariables false
theorem own : ownKnob Try.prog.godebug = none := by kernel_rfl
theorem laid : laidOutB Try.prog = true := by kernel_rfl
theorem kinds : (Try.f4.params.toList.all fun t => Try.prog.readableRec t && decide (t < Try.prog.types.size)) = true := by kernel_rfl
theorem kind (t : TypeId) (ht : t ∈ Try.f4.params.toList) : Try.prog.readableRec t = true ∧ t < Try.prog.types.size := by
  have := List.all_eq_true.1 kinds t ht
  simpa using this
set_option maxRecDepth 100000 in
theorem lifted (os : Os) (started : os.Started) (H : Type) (enc : TypeId × Value → H) :
    ReturnsInHanded {} Try.checked os 4 .any (Rows.busPassesSpec.pre6 enc Try.prog Try.f4 Rows.busPassesRow.domain false) (Rows.busPassesSpec.post enc Try.prog Try.f4 false true false false) := by
  refine returnsInHanded_of_change (C := Try.checked) own started (by kernel_rfl) Try.func4
    (ChangeSpec.witness6 (enc := enc) (C := Try.checked) false ⟨#[], #[(.slice none 0 0), (.slice none 0 0)], []⟩ 8 (by kernel_rfl) (by kernel_rfl) (by kernel_rfl) (by kernel_rfl)) ?_
  intro W base args ds gs before hval0 hW hcnd _
  have hval : ∀ (j : Nat) t v, Try.f4.params[j]? = some t → args[j]? = some v → Value.okWide Try.prog W .any base t v := hval0
  have hW' := hW
  obtain ⟨p, q, hA0, hV, rfl, hfz, hnd⟩ := hW
  have hA : DataW.TrodAll enc Try.prog W 0 (fun _ => true) true Try.f4.params.toList args.toList ds p := hA0
  rw [Try.params4] at hA hval
  obtain ⟨v0, vs0, d0, ds0, p0, q0, hargs, rfl, rfl, h0, r0⟩ := trodAll_cons hA
  obtain ⟨v1, vs1, d1, ds1, p1, q1, rfl, rfl, rfl, h1, r1⟩ := trodAll_cons r0
  obtain ⟨rfl, rfl, rfl⟩ := trodAll_nil r1
  obtain rfl : args = #[v0, v1] := by cases args; simp_all
  obtain ⟨rfl, rfl⟩ := trodVars_none hV
  clear hval0 hargs
  have fin : (Calls Try.prog 4 #[v0, v1] W fun e w' => e = .returned (.bool true) ∧ Below W.heap.size W w') → Calls Try.prog 4 #[v0, v1] W fun e W' => ∃ v, e = .returned v ∧ Rows.busPassesSpec.post enc Try.prog Try.f4 false true false false W #[v0, v1] v W' := by
    intro hw
    refine hw.mono fun e W' ⟨he, hg⟩ => ?_
    subst he
    exact ⟨_, rfl, Sx.ZfC (pv := []) hW' (fun _ _ _ => (trodAll_cons_mk (shut_bool Try.underlying4 _) trodAll_mk0)) (fun sp hsp => Sx.Zgn laid hg kind hA0 (fun x hx => hsp x (List.mem_append_left _ hx))) (fun _ _ => rfl) rfl
      hg (ok_one (by kernel_rfl) rfl (okWide_bool_mk Try.underlying4 _))⟩
  refine fin ?_
  clear fin hA0 hW' hcnd hfz hnd
  obtain ⟨y0, y0', y0'', hy0⟩ := okWide_slice Try.underlying30 (hval 0 30 v0 rfl rfl)
  have hone0 : v0.cells.toList = [v0] := by rw [hy0]; rfl
  clear hy0
  obtain ⟨y1, y1', y1'', hy1⟩ := okWide_slice Try.underlying22 (hval 1 22 v1 rfl rfl)
  have hone1 : v1.cells.toList = [v1] := by rw [hy1]; rfl
  clear hy1
  obtain ⟨l0, n0, hl0, hm0, hw0, hv0⟩ := Sx.ZjB (k := .i64) (z := 10) Try.underlying30 (by kernel_rfl) (by decide) (fun _ => rfl) hone0 h0
  obtain ⟨l1, n1, hl1, hm1, hw1, hv1⟩ := Sx.ZjC (ks := [.si .i64 2]) (cts := (Sx.Zcx Try.prog 4 23).getD []) Try.underlying22 (by kernel_rfl) (by kernel_rfl) (by decide) (fun _ => rfl) hone1 h1
  exact Sx.Zlz (vs := [v0, v1]) (rows := []) tabOk (fun p hp => by cases hp)
    ((Zni l0 l1 n0 n1 hl0 hl1 (fun k hk => by have h := hw1 k hk; rw [Sx.Zgo] at h; exact h.2.1)).choose_spec) ⟨_, _, rfl, Sx.ZjD hv0, _, _, rfl, hv1, rfl⟩
theorem over : Rows.busPassesRow.holds Try.pinned (OpenSpec.ofChange Rows.busPassesSpec) :=
  OpenClaim.holds_of_wide 4 Try.f4 rfl rfl rfl rfl rfl rfl rfl ⟨rfl, rfl, rfl, rfl, rfl⟩ rfl rfl rfl rfl rfl (by kernel_rfl) Try.func4 (by kernel_rfl)
    (of_decide_eq_true (by kernel_rfl)) (by unfold Func.isWrapper; first | (rw [if_pos (by decide +kernel)]; kernel_rfl) | (rw [if_neg (by decide +kernel)]; exact ⟨rfl, rfl⟩))
    (fun os started H enc _ => lifted os started H enc)
theorem proved : Rows.BusPassesSaid :=
  over
#print axioms proved
end Go.Proofs.Ytlbfafbhflblcaa.busPasses
