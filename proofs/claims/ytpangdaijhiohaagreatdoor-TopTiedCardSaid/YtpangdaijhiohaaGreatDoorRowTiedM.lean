/- Merged by program: RowTied. -/
import Derived.Test.YtpangdaijhiohaaGreatDoorM6
import Derived.Test.YtpangdaijhiohaaGreatDoorRows
import Derived.Test.YtpangdaijhiohaaGreatDoorCards
import Derived.Test.YtpangdaijhiohaaGreatDoorTie
import Derived.WalkKit
import Derived.ProofKit
import Derived.LaidMore
import Derived.OpenShut
import Derived.Stop.Joined
import Derived.SevenTiedAt
/- The given statement TopTiedCardSaid: the row, and its tied card. -/
set_option linter.unusedVariables false
set_option linter.unusedSimpArgs false
set_option linter.unusedVariables false
set_option linter.unnecessarySimpa false
namespace Go.Proofs.YtpangdaijhiohaaGreatDoor.topTied
open Go Go.ChangeShapes Go.WideShapes Go.ChangeAt Go.RowKit Go.V Bd

theorem own : ownKnob Tryz.prog.godebug = none := by kernel_rfl

/-- The door's own heap meets the condition. -/
theorem door_met (os : Os) (args : Array Value) : laidMetH Tryz.prog laid1 ((World.doorLaid Tryz.prog 400 os).forCall (fun _ _ => 0) ⟨#[], args, []⟩).memory :=
  laidMetH_of_parts3 (fuel := 8) (laidMet_of_run' 8 (by kernel_rfl) (by kernel_rfl)) (by kernel_rfl) (by kernel_rfl)

set_option maxRecDepth 100000 in
theorem lifted (os : Os) (started : os.Started) (H : Type) (enc : TypeId × Value → H) :
    ReturnsInHanded {} Tryz.checked os 5 .any (fun w args => (Rows.topTiedSpec.pre enc Tryz.prog Tryz.f5 [] false w args ∧ laidMetH Tryz.prog laid1 w) ∧ sizedMet enc Tryz.prog Tryz.f5 (OpenSpec.ofChange Rows.topTiedSpec) false w args)
      (Rows.topTiedSpec.post enc Tryz.prog Tryz.f5 false true false false) := by
  refine returnsInHanded_of_change_and (C := Tryz.checked) (X := fun w _ => laidMetH Tryz.prog laid1 w) (fun _ _ _ hh h => h.of_heap hh) own started (by kernel_rfl) Tryz.func5
    (ChangeSpec.witness_shaped (enc := enc) (C := Tryz.checked) (os := os) (X := fun w _ => laidMetH Tryz.prog laid1 w) false (World.doorLaid Tryz.prog 400 os) #[.agg #[.slice none 0 0, .slice none 0 0], .int .i64 0, .int .i64 0] 8 rfl (World.shaped_of_RefB (by kernel_rfl) (by kernel_rfl)) (by kernel_rfl) (by kernel_rfl) (by kernel_rfl) (door_met os _)) ?_
  intro W base args ds gs before hval0 hW hcnd _ hL _
  have hval : ∀ (j : Nat) t v, Tryz.f5.params[j]? = some t → args[j]? = some v → Value.okWide Tryz.prog W .any base t v := hval0
  have hW' := hW
  obtain ⟨p, q, hA0, hV, rfl, hfz, hnd⟩ := hW
  have hA : DataW.TrodAll enc Tryz.prog W 0 (fun _ => true) true Tryz.f5.params.toList args.toList ds p := hA0
  rw [Tryz.params5] at hA hval
  obtain ⟨v0, vs0, d0, ds0, p0, q0, hargs, rfl, rfl, h0, r0⟩ := trodAll_cons hA
  obtain ⟨v1, vs1, d1, ds1, p1, q1, rfl, rfl, rfl, h1, r1⟩ := trodAll_cons r0
  obtain ⟨v2, vs2, d2, ds2, p2, q2, rfl, rfl, rfl, h2, r2⟩ := trodAll_cons r1
  obtain ⟨rfl, rfl, rfl⟩ := trodAll_nil r2
  obtain rfl : args = #[v0, v1, v2] := by cases args; simp_all
  obtain ⟨rfl, rfl⟩ := trodVars_none hV
  clear hA0 hval0
  simp only [List.append_nil] at hW'
  have lt0 : ∀ x ∈ p0, x.block < W.heap.size := fun x hx => hW'.lt x (by simp [hx])
  obtain ⟨a0, rep0, k0⟩ := trod_val (g := 24) (tc := .st [.sl .int, .sl .int]) (by kernel_rfl) (hval 0 69 v0 rfl rfl) h0
  obtain ⟨b0, rfl⟩ := Mo.ty_box k0
  have lt1 : ∀ x ∈ p1, x.block < W.heap.size := fun x hx => hW'.lt x (by simp [hx])
  obtain ⟨a1, rep1, k1⟩ := trod_val (g := 24) (tc := .int) (by kernel_rfl) (hval 1 3 v1 rfl rfl) h1
  obtain ⟨n1, rfl, ha1, hz1⟩ := Mo.ty_int k1
  have lt2 : ∀ x ∈ p2, x.block < W.heap.size := fun x hx => hW'.lt x (by simp [hx])
  obtain ⟨a2, rep2, k2⟩ := trod_val (g := 24) (tc := .int) (by kernel_rfl) (hval 2 3 v2 rfl rfl) h2
  obtain ⟨n2, rfl, ha2, hz2⟩ := Mo.ty_int k2
  refine (calls_of_ctr (To.c5 b0 n1 n2) (reps_list (vs := [v0, v1, v2]) (avs := [_, _, _]) rfl ?_) (gf_of hL)).mono fun e W' ⟨he, hB⟩ => ?_
  · intro j v a hv ha
    rcases j with _ | j
    · cases hv; cases ha; exact rep0
    rcases j with _ | j
    · cases hv; cases ha; exact rep1
    rcases j with _ | j
    · cases hv; cases ha; exact rep2
    · simp at hv
  subst he
  exact ⟨_, rfl, _, _, _, [], _, [], hW', trodAll_mk1 (shut_bool Tryz.underlying4 _), (trodAll_cons_mk (Below.trod Mo.laidOutP (by kernel_rfl) (of_decide_eq_true (by kernel_rfl)) h0 hB lt0) (trodAll_cons_mk (Below.trod Mo.laidOutP (by kernel_rfl) (of_decide_eq_true (by kernel_rfl)) h1 hB lt1) (trodAll_cons_mk (Below.trod Mo.laidOutP (by kernel_rfl) (of_decide_eq_true (by kernel_rfl)) h2 hB lt2) trodAll_mk0))), rfl, hB.frame _, fun h => by cases h⟩

theorem over : Rows.TopTiedSaid :=
  OpenClaim.holds_of_wide 5 Tryz.f5 rfl rfl rfl rfl rfl rfl rfl ⟨rfl, rfl, rfl, rfl, rfl⟩ rfl rfl rfl rfl rfl (by kernel_rfl) Tryz.func5 (by kernel_rfl)
    (of_decide_eq_true (by kernel_rfl)) (by unfold Func.isWrapper; first | (rw [if_pos (by decide +kernel)]; kernel_rfl) | (rw [if_neg (by decide +kernel)]; exact ⟨rfl, rfl⟩))
    (fun os started H enc _ => lifted os started H enc)

theorem proved : Rows.TopTiedCardSaid :=
  Claim7.holds_tied_plain_at .later [] [.data] true (true, "ec79288ad0cb52e30ca41cf2de6e51cdb83259b1ef0e9ec05094d72a693807d3") false
    over (fun _ h => by cases h) (by kernel_rfl) (fun _ h => by cases h) topTied_row_tie rfl ⟨rfl, rfl⟩ (by kernel_rfl) rfl
    (fun f fn hf hfn => by
      obtain rfl : f = 5 := Option.some.inj ((show Tryz.prog.funcNamed "steening/steeningtop.TopTied" = some 5 by kernel_rfl).symm.trans hf) |>.symm
      obtain rfl : fn = Tryz.f5 := (Option.some.inj (Tryz.func5.symm.trans hfn)).symm
      exact ⟨by kernel_rfl, fun j t ht => by
        rw [Tryz.params5] at ht
        have hm : t ∈ [69, 3, 3] := by simpa using Array.mem_of_getElem? ht
        have hall : ([69, 3, 3].all fun u => !Tryz.prog.wantsStandIn u) = true := by kernel_rfl
        exact (show Tryz.prog.wantsStandIn t = false by simpa using List.all_eq_true.1 hall t hm)⟩)
    (by kernel_rfl)

end Go.Proofs.YtpangdaijhiohaaGreatDoor.topTied
