/- Merged by program: T36. -/
import Derived.Test.YtemnojaoickjfaaM5
/- FinesOwed. -/
set_option linter.unusedSimpArgs false
set_option linter.unusedVariables false
set_option linter.unnecessarySimpa false
namespace Go.Proofs.Ytemnojaoickjfaa
open Go Go.V

theorem c57o (b : FB) (hv : VF b) (t : List Pa) (hg : GM b b.ones.length t) (who : Int) : Ctr Try.prog 57 [FK b, PS t, .int who] (SP (owdI b t who)) := by
  have := c57 b hv t hg who
  rw [dw_eq, ← ow_eq hg] at this
  exact this

theorem c30 (b : FB) (hs : SmF b) (who : Int) : Ctr Try.prog 30 [FK b, .int who] (owdR b who) := by
  refine ctr_of_wp hmix Try.func30 m30 rfl ?_
  unfold v30 owdR
  have a1 := c75 b who
  have a2 := c74 b hs (within who 0 (w64 (b.persons - 1)))
  obtain ⟨e, hE⟩ : ∃ e, owE b who = e := ⟨_, rfl⟩
  have hE' : askF b (within who 0 (w64 (b.persons - 1))) = e := hE
  rw [hE'] at a2
  rw [hE]
  simp -failIfUnchanged (disch := first | omega | (simp <;> omega) | fail) only [go_sem, simprocAttr]
  refine wcall a1 ?_
  simp -failIfUnchanged (disch := first | omega | (simp <;> omega) | fail) only [go_sem, simprocAttr]
  refine wcall a2 ?_
  by_cases h0 : e = 0
  · subst h0
    obtain ⟨hc, _⟩ := pr_0 hE'
    have hv := vf_of hc
    have k2 := c66 b hv
    have hne := lrgL_ne b
    have hgm : ∀ x ∈ lrgL b, GM b b.ones.length x := fun x hx => (mem_lrg.1 hx).1
    have h0 : 0 < (lrgL b).length := List.length_pos_iff.2 hne
    have hsm := lrg_small hv
    generalize lrgL b = M at k2 hgm h0 hsm ⊢
    have c57a : ∀ i, i < M.length → Ctr Try.prog 57 [FK b, PS (M[i]?.getD default), .int who] (SP (owdI b (M[i]?.getD default) who)) := fun i hi => c57o b hv _ (hgm _ (mem_getD hi)) who
    have hat : ∀ i, i < M.length → (M.map PS)[i]?.getD .nul = PS (M[i]?.getD default) := fun i hi => by simp [hi]
    have c0 := c57a 0 h0
    have e0 := hat 0 h0
    simp -failIfUnchanged (disch := first | omega | (simp <;> omega) | fail) only [go_sem, simprocAttr]
    refine wcall k2 ?_
    simp -failIfUnchanged (disch := first | omega | (simp <;> omega) | fail) only [go_sem, simprocAttr, e0]
    refine wcall c0 ?_
    simp -failIfUnchanged (disch := first | omega | (simp <;> omega) | fail) only [go_sem, simprocAttr]
    refine wp_loop' Nat (fun i => ⟨[(1, .int who), (2, .ptr 2 0), (4, .ptr 4 0), (7, .sl 1 (M.map PS) .sh), (8, .ptr 8 0), (9, .int i)],
        [(8, ⟨[.int (rgK b who M i).lo, .int (rgK b who M i).hi], false⟩), (4, ⟨[.int 0, .int 0], false⟩), (2, ⟨FKc b, false⟩)], [], none⟩) (fun i => i ≤ M.length) (fun i => M.length - i) 0 (by simp) (by simp -failIfUnchanged (disch := first | omega | (simp <;> omega) | fail) only [go_sem, simprocAttr]; simp [rgK]) ?_
    intro i hi
    have hi : i ≤ M.length := hi
    simp -failIfUnchanged (disch := first | omega | (simp <;> omega) | fail) only [go_sem, simprocAttr]
    refine wcond_dec (fun h1 => ?_) (fun h1 => ?_)
    · have hil : i < M.length := by omega
      have c1 := c57a i hil
      have e1 := hat i hil
      have hst : rgK b who M (i + 1) = ⟨min (rgK b who M i).lo (owdI b (M[i]?.getD default) who).lo, max (rgK b who M i).hi (owdI b (M[i]?.getD default) who).hi⟩ := rfl
      simp -failIfUnchanged (disch := first | omega | (simp <;> omega) | fail) only [go_sem, simprocAttr, e1]
      refine wcall c1 ?_
      simp -failIfUnchanged (disch := first | omega | (simp <;> omega) | fail) only [go_sem, simprocAttr]
      refine ⟨i + 1, by dsimp only; omega, by dsimp only; omega, ?_⟩
      dsimp only
      rw [hst]
      simp -failIfUnchanged (disch := first | omega | (simp <;> omega) | fail) only [go_sem, simprocAttr]
      try simp
    · have e : i = M.length := by omega
      subst e
      simp -failIfUnchanged (disch := first | omega | (simp <;> omega) | fail) only [go_sem, simprocAttr]
      try simp
  · have hd : decide (¬ e = 0) = true := decide_eq_true h0
    simp -failIfUnchanged (disch := first | omega | (simp <;> omega) | fail) only [go_sem, simprocAttr, hd]
    simp [h0]

theorem c6 (b : FB) (who : Int) : Ctr Try.prog 6 [FK b, .int who] (.bool true) := by
  refine ctr_of_wp hmix Try.func6 m6 rfl ?_
  unfold v6
  simp -failIfUnchanged (disch := first | omega | (simp <;> omega) | fail) only [go_sem, simprocAttr]
  refine wcall (c14 b) ?_
  cases hf : farF b with
  | true =>
    simp -failIfUnchanged (disch := first | omega | (simp <;> omega) | fail) only [go_sem, simprocAttr]
    refine wcall c15 ?_
    simp -failIfUnchanged (disch := first | omega | (simp <;> omega) | fail) only [go_sem, simprocAttr]
  | false =>
    have hs := far_f hf
    have a1 := c28 b hs
    have a2 := c29 b hs
    have a3 := c25 b hs who
    have a4 := c30 b hs who
    have a5 := c31 b hs
    unfold fewR at a1 a2
    unfold owdR at a3 a4
    unfold matR at a5
    cases hc : chkB b with
    | false =>
      have he : errF b = 130 := by unfold errF; rw [hc]; rfl
      have hno : decide (¬ (130 : Int) = 0) = true := by decide
      rw [hc, he] at a1 a2 a5
      simp -failIfUnchanged (disch := first | omega | (simp <;> omega) | fail) only [go_sem, simprocAttr]
      refine wcall (c16 b hs) ?_
      simp -failIfUnchanged (disch := first | omega | (simp <;> omega) | fail) only [go_sem, simprocAttr]
      refine wcall a1 ?_
      simp -failIfUnchanged (disch := first | omega | (simp <;> omega) | fail) only [go_sem, simprocAttr]
      refine wcall a2 ?_
      simp -failIfUnchanged (disch := first | omega | (simp <;> omega) | fail) only [go_sem, simprocAttr]
      refine wcall a3 ?_
      simp -failIfUnchanged (disch := first | omega | (simp <;> omega) | fail) only [go_sem, simprocAttr]
      refine wcall a4 ?_
      simp -failIfUnchanged (disch := first | omega | (simp <;> omega) | fail) only [go_sem, simprocAttr]
      refine wcall a5 ?_
      simp -failIfUnchanged (disch := first | omega | (simp <;> omega) | fail) only [go_sem, simprocAttr, eq_self]
      refine wcall (c21 b hs) ?_
      simp -failIfUnchanged (disch := first | omega | (simp <;> omega) | fail) only [go_sem, simprocAttr, hno]
      refine wcall c15 ?_
      simp -failIfUnchanged (disch := first | omega | (simp <;> omega) | fail) only [go_sem, simprocAttr]
    | true =>
      have he : errF b = 0 := by unfold errF; rw [hc]; rfl
      have hno : decide (¬ (0 : Int) = 0) = false := by decide
      have hv := vf_of hc
      have hn1 := hv.n1
      have hn2 := hv.n2
      have hg : GM b b.ones.length (fstM b) := (mem_lrg.1 (fst_most b).1).1
      have hfl := fst_len hv
      have a6 := c32 b hv (fstM b) (by omega)
      rw [(mat_gm hv).2 hg] at a6
      have hfe : fewI b = (b.ones.length : Int) + b.others.length - (fstM b).length := rfl
      rw [hc, he] at a1 a2 a5
      simp only [if_true] at a1 a2 a5
      generalize fstM b = F at *
      generalize fewI b = W at *
      subst hfe
      simp -failIfUnchanged (disch := first | omega | (simp <;> omega) | fail) only [go_sem, simprocAttr]
      refine wcall (c16 b hs) ?_
      simp -failIfUnchanged (disch := first | omega | (simp <;> omega) | fail) only [go_sem, simprocAttr]
      refine wcall a1 ?_
      simp -failIfUnchanged (disch := first | omega | (simp <;> omega) | fail) only [go_sem, simprocAttr]
      refine wcall a2 ?_
      simp -failIfUnchanged (disch := first | omega | (simp <;> omega) | fail) only [go_sem, simprocAttr]
      refine wcall a3 ?_
      simp -failIfUnchanged (disch := first | omega | (simp <;> omega) | fail) only [go_sem, simprocAttr]
      refine wcall a4 ?_
      simp -failIfUnchanged (disch := first | omega | (simp <;> omega) | fail) only [go_sem, simprocAttr]
      refine wcall a5 ?_
      simp -failIfUnchanged (disch := first | omega | (simp <;> omega) | fail) only [go_sem, simprocAttr, eq_self]
      refine wcall (c21 b hs) ?_
      simp -failIfUnchanged (disch := first | omega | (simp <;> omega) | fail) only [go_sem, simprocAttr, hno]
      refine wcall a6 ?_
      have e9 : decide ((F.length : Int) = (b.ones.length : Int) + b.others.length - ((b.ones.length : Int) + b.others.length - F.length)) = true := decide_eq_true (by omega)
      simp -failIfUnchanged (disch := first | omega | (simp <;> omega) | fail) only [go_sem, simprocAttr, e9]
      refine wcall c15 ?_
      simp -failIfUnchanged (disch := first | omega | (simp <;> omega) | fail) only [go_sem, simprocAttr]

end Go.Proofs.Ytemnojaoickjfaa
