/- Merged by program: RowAlike. -/
import Derived.Test.YtemnojaoickjfaaM6
import Derived.Test.YtemnojaoickjfaaRows
import Derived.SizedLaws
import Derived.WalkKit
import Derived.ProofKit
import Derived.OpenShut
/- The given statement FinesAlikeSaid. -/
set_option linter.unusedVariables false
set_option linter.unusedSimpArgs false
set_option linter.unusedVariables false
set_option linter.unnecessarySimpa false
namespace Go.Proofs.Ytemnojaoickjfaa.finesAlike
open Go Go.ChangeShapes Go.WideShapes Go.ChangeAt Go.RowKit Go.V

theorem own : ownKnob Try.prog.godebug = none := by kernel_rfl

set_option maxRecDepth 100000 in
theorem lifted (os : Os) (started : os.Started) (H : Type) (enc : TypeId × Value → H) :
    ReturnsInHanded {} Try.checked os 5 .any (Rows.finesAlikeSpec.pre6 enc Try.prog Try.f5 Rows.finesAlikeRow.domain false) (Rows.finesAlikeSpec.post enc Try.prog Try.f5 false true false false) := by
  refine returnsInHanded_of_change_sized (C := Try.checked) own started (by kernel_rfl) Try.func5
    (ChangeSpec.witness6 (enc := enc) (C := Try.checked) false ⟨#[], #[.agg #[.int .i64 0, .int .i64 0, .int .i64 0, .int .i64 0, .slice none 0 0, .slice none 0 0]], []⟩ 8 (by kernel_rfl) (by kernel_rfl) (by kernel_rfl) (by kernel_rfl)) ?_
  intro W base args ds gs before hval0 hW hcnd hsz _
  have hval : ∀ (j : Nat) t v, Try.f5.params[j]? = some t → args[j]? = some v → Value.okWide Try.prog W .any base t v := hval0
  have hW' := hW
  obtain ⟨p, q, hA0, hV, rfl, hfz, hnd⟩ := hW
  have hA : DataW.TrodAll enc Try.prog W 0 (fun _ => true) true Try.f5.params.toList args.toList ds p := hA0
  rw [Try.params5] at hA hval
  obtain ⟨v0, vs0, d0, ds0, p0, q0, hargs, rfl, rfl, h0, r0⟩ := trodAll_cons hA
  obtain ⟨rfl, rfl, rfl⟩ := trodAll_nil r0
  obtain rfl : args = #[v0] := by cases args; simp_all
  obtain ⟨rfl, rfl⟩ := trodVars_none hV
  clear hA0 hval0
  simp only [List.append_nil] at hW' 
  have lt0 : ∀ x ∈ p0, x.block < W.heap.size := fun x hx => hW'.lt x (by simp [hx])
  have hwt0 : ∀ y ∈ d0.weights Try.prog 24, y ≤ 140737488355328 := fun y hy => by
    have h5 := List.all_eq_true.1 hsz y (DataW.weights_mem_each (j := 0) (t := 24) (by rfl) (by rfl) y hy)
    have h6 : y ≤ reachBytes := by simpa using h5
    exact Nat.le_trans h6 (by decide)
  obtain ⟨a0, rep0, k0⟩ := trod_valB 140737488355328 (g := 24) (tc := tcF) (by kernel_rfl) hwt0 (hval 0 24 v0 rfl rfl) h0
  obtain ⟨b0, rfl, hb0⟩ := tb_fk k0
  refine (calls_of_ctr (c5 b0 hb0.1 hb0.2) (reps_list (vs := [v0]) (avs := [_]) rfl ?_)).mono fun e W' ⟨he, hB⟩ => ?_
  · intro j v a hv ha
    rcases j with _ | j
    · cases hv; cases ha; exact rep0
    · simp at hv
  subst he
  exact ⟨_, rfl, _, _, _, [], _, [], hW', trodAll_mk1 (shut_bool Try.underlying4 _), (trodAll_cons_mk (Below.trod laidOutP (by kernel_rfl) (of_decide_eq_true (by kernel_rfl)) h0 hB lt0) trodAll_mk0), rfl, hB.frame _, fun h => by cases h⟩

theorem over : Rows.finesAlikeRow.holds Try.pinned (OpenSpec.ofChange Rows.finesAlikeSpec) :=
  OpenClaim.holds_of_wide 5 Try.f5 rfl rfl rfl rfl rfl rfl rfl ⟨rfl, rfl, rfl, rfl, rfl⟩ rfl rfl rfl rfl rfl (by kernel_rfl) Try.func5 (by kernel_rfl)
    (of_decide_eq_true (by kernel_rfl)) (by unfold Func.isWrapper; first | (rw [if_pos (by decide +kernel)]; kernel_rfl) | (rw [if_neg (by decide +kernel)]; exact ⟨rfl, rfl⟩))
    (fun os started H enc _ => lifted os started H enc)

theorem proved : Rows.FinesAlikeSaid := over

end Go.Proofs.Ytemnojaoickjfaa.finesAlike
