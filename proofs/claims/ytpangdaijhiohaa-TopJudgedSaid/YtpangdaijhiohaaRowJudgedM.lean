/- Merged by program: RowJudged. -/
import Derived.Test.YtpangdaijhiohaaM5
import Derived.Test.YtpangdaijhiohaaRows
import Derived.WalkKit
import Derived.ProofKit
import Derived.OpenShut
/- The given statement TopJudgedSaid. -/
set_option linter.unusedVariables false
set_option linter.unusedSimpArgs false
set_option linter.unusedVariables false
set_option linter.unnecessarySimpa false
namespace Go.Proofs.Ytpangdaijhiohaa.topJudged
open Go Go.ChangeShapes Go.WideShapes Go.ChangeAt Go.RowKit Go.V

theorem own : ownKnob Try.prog.godebug = none := by kernel_rfl

set_option maxRecDepth 100000 in
theorem lifted (os : Os) (started : os.Started) (H : Type) (enc : TypeId × Value → H) :
    ReturnsInHanded {} Try.checked os 3 .any (Rows.topJudgedSpec.pre6 enc Try.prog Try.f3 Rows.topJudgedRow.domain false) (Rows.topJudgedSpec.post enc Try.prog Try.f3 false true false false) := by
  refine returnsInHanded_of_change (C := Try.checked) own started (by kernel_rfl) Try.func3
    (ChangeSpec.witness6 (enc := enc) (C := Try.checked) false ⟨#[], #[.agg #[.int .i64 0, .slice none 0 0, .slice none 0 0], .agg #[.slice none 0 0, .int .i64 0, .int .i64 0, .int .i64 0]], []⟩ 8 (by kernel_rfl) (by kernel_rfl) (by kernel_rfl) (by kernel_rfl)) ?_
  intro W base args ds gs before hval0 hW hcnd _
  have hval : ∀ (j : Nat) t v, Try.f3.params[j]? = some t → args[j]? = some v → Value.okWide Try.prog W .any base t v := hval0
  have hW' := hW
  obtain ⟨p, q, hA0, hV, rfl, hfz, hnd⟩ := hW
  have hA : DataW.TrodAll enc Try.prog W 0 (fun _ => true) true Try.f3.params.toList args.toList ds p := hA0
  rw [Try.params3] at hA hval
  obtain ⟨v0, vs0, d0, ds0, p0, q0, hargs, rfl, rfl, h0, r0⟩ := trodAll_cons hA
  obtain ⟨v1, vs1, d1, ds1, p1, q1, rfl, rfl, rfl, h1, r1⟩ := trodAll_cons r0
  obtain ⟨rfl, rfl, rfl⟩ := trodAll_nil r1
  obtain rfl : args = #[v0, v1] := by cases args; simp_all
  obtain ⟨rfl, rfl⟩ := trodVars_none hV
  clear hA0 hval0
  simp only [List.append_nil] at hW' 
  have lt0 : ∀ x ∈ p0, x.block < W.heap.size := fun x hx => hW'.lt x (by simp [hx])
  obtain ⟨a0, rep0, k0⟩ := trod_val (g := 24) (tc := Lv.tcT) (by kernel_rfl) (hval 0 25 v0 rfl rfl) h0
  obtain ⟨b0, rfl⟩ := Lv.ty_tw k0
  have lt1 : ∀ x ∈ p1, x.block < W.heap.size := fun x hx => hW'.lt x (by simp [hx])
  obtain ⟨a1, rep1, k1⟩ := trod_val (g := 24) (tc := .st [.sl .int, .st [.int, .int, .int]]) (by kernel_rfl) (hval 1 30 v1 rfl rfl) h1
  obtain ⟨x1, s1, rfl⟩ := Lv.ty_jd k1
  refine (calls_of_ctr (Lv.c3 b0 x1 s1) (reps_list (vs := [v0, v1]) (avs := [_, _]) rfl ?_)).mono fun e W' ⟨he, hB⟩ => ?_
  · intro j v a hv ha
    rcases j with _ | j
    · cases hv; cases ha; exact rep0
    rcases j with _ | j
    · cases hv; cases ha; exact rep1
    · simp at hv
  subst he
  exact ⟨_, rfl, _, _, _, [], _, [], hW', trodAll_mk1 (shut_bool Try.underlying4 _), (trodAll_cons_mk (Below.trod laidOutP (by kernel_rfl) (of_decide_eq_true (by kernel_rfl)) h0 hB lt0) (trodAll_cons_mk (Below.trod laidOutP (by kernel_rfl) (of_decide_eq_true (by kernel_rfl)) h1 hB lt1) trodAll_mk0)), rfl, hB.frame _, fun h => by cases h⟩

theorem over : Rows.topJudgedRow.holds Try.pinned (OpenSpec.ofChange Rows.topJudgedSpec) :=
  OpenClaim.holds_of_wide 3 Try.f3 rfl rfl rfl rfl rfl rfl rfl ⟨rfl, rfl, rfl, rfl, rfl⟩ rfl rfl rfl rfl rfl (by kernel_rfl) Try.func3 (by kernel_rfl)
    (of_decide_eq_true (by kernel_rfl)) (by unfold Func.isWrapper; first | (rw [if_pos (by decide +kernel)]; kernel_rfl) | (rw [if_neg (by decide +kernel)]; exact ⟨rfl, rfl⟩))
    (fun os started H enc _ => lifted os started H enc)

theorem proved : Rows.TopJudgedSaid := over

end Go.Proofs.Ytpangdaijhiohaa.topJudged
