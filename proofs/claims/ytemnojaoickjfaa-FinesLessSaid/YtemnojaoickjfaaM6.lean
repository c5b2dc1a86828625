/- Merged by program: T33, T34, T35, T36, T37, T38, T39, T40, T42, T43, T45, T46. -/
import Derived.Test.YtemnojaoickjfaaM5
import Derived.DeepKeys4
/- FinesDays. -/
set_option linter.unusedSimpArgs false
set_option linter.unusedVariables false
set_option linter.unnecessarySimpa false
namespace Go.Proofs.Ytemnojaoickjfaa
open Go Go.V

theorem c29 (b : FB) (hs : SmF b) : Ctr Try.prog 29 [FK b] (fewR b) := by
  refine ctr_of_wp hmix Try.func29 m29 rfl ?_
  unfold v29 fewR
  have k1 := c49 b hs
  unfold errF at k1 ⊢
  cases hc : chkB b with
  | false =>
    rw [hc] at k1
    simp -failIfUnchanged (disch := first | omega | (simp <;> omega) | fail) only [go_sem, simprocAttr]
    refine wcall k1 ?_
    simp -failIfUnchanged (disch := first | omega | (simp <;> omega) | fail) only [go_sem, simprocAttr]
    try simp
  | true =>
    rw [hc] at k1
    have hv := vf_of hc
    have k2 := c66 b hv
    have h0 : 0 < (lrgL b).length := List.length_pos_iff.2 (lrgL_ne b)
    have e1 := fst_at (b := b)
    have hl := fst_len hv
    have hn1 := hv.n1
    have hn2 := hv.n2
    unfold fewI
    have hf : (lrgL b)[0]?.getD default = fstM b := rfl
    generalize lrgL b = M at k2 h0 e1 hf
    simp -failIfUnchanged (disch := first | omega | (simp <;> omega) | fail) only [go_sem, simprocAttr]
    refine wcall k1 ?_
    simp -failIfUnchanged (disch := first | omega | (simp <;> omega) | fail) only [go_sem, simprocAttr]
    refine wcall k2 ?_
    simp -failIfUnchanged (disch := first | omega | (simp <;> omega) | fail) only [go_sem, simprocAttr, e1, hf]
    try simp

theorem c55 (b : FB) (hv : VF b) (t : List Pa) (hg : GM b b.ones.length t) : Ctr Try.prog 55 [FK b, PS t] (.int (dsI b t)) := by
  refine ctr_of_wp hmix Try.func55 m55 rfl ?_
  unfold v55
  have htl := gm_len hg
  have hn1 := hv.n1
  have hn2 := hv.n2
  simp -failIfUnchanged (disch := first | omega | (simp <;> omega) | fail) only [go_sem, simprocAttr]
  refine wp_loop' Nat (fun j => ⟨[(1, PS t), (2, .ptr 2 0), (5, .int (dsK b t j)), (6, .int j)], [(2, ⟨FKc b, false⟩)], [], none⟩) (fun j => j ≤ t.length) (fun j => t.length - j) 0 (by simp) (by simp -failIfUnchanged (disch := first | omega | (simp <;> omega) | fail) only [go_sem, simprocAttr]; simp [dsK]) ?_
  intro j hj
  have hj : j ≤ t.length := hj
  simp -failIfUnchanged (disch := first | omega | (simp <;> omega) | fail) only [go_sem, simprocAttr]
  refine wcond_dec (fun h2 => ?_) (fun h2 => ?_)
  · have hjl : j < t.length := by omega
    obtain ⟨p, q, e, hp, hq, _⟩ := gm_at hg hjl
    have hb := dsK_bd hv hg j hj
    have hd := day_bd (one_v hv hp) (oth_v hv hq)
    have hst : dsK b t (j + 1) = dsK b t j + dayI (one b p) (oth b q) := by
      simp only [dsK, e, Int.toNat_natCast]
    have g1 : b.ones[p]?.getD default = one b p := rfl
    have g2 : b.others[q]?.getD default = oth b q := rfl
    simp -failIfUnchanged (disch := first | omega | (simp <;> omega) | fail) only [go_sem, simprocAttr, e, g1, g2]
    refine wcall (c90 (one b p) (oth b q)) ?_
    simp -failIfUnchanged (disch := first | omega | (simp <;> omega) | fail) only [go_sem, simprocAttr]
    refine ⟨j + 1, by dsimp only; omega, by dsimp only; omega, ?_⟩
    dsimp only
    rw [hst]
    simp -failIfUnchanged (disch := first | omega | (simp <;> omega) | fail) only [go_sem, simprocAttr]
    try simp
  · have ej : j = t.length := by omega
    subst ej
    have hds : dsK b t t.length = dsI b t := rfl
    rw [hds]
    simp -failIfUnchanged (disch := first | omega | (simp <;> omega) | fail) only [go_sem, simprocAttr]
    try simp

/-- The least sum of days, as the document has it. -/
def mnK (b : FB) (l : List (List Pa)) : Nat → Int
  | 0 => dsI b (l[0]?.getD default)
  | k + 1 => min (mnK b l k) (dsI b (l[k]?.getD default))
theorem ld_mn {b : FB} (hv : VF b) {l : List (List Pa)} (hg : ∀ x ∈ l, GM b b.ones.length x) : ∀ k, k + 1 ≤ l.length → ldK b l (k + 1) = mnK b l (k + 1)
  | 0, h => by simp [ldK, mnK]
  | k + 1, h => by
    have ih := ld_mn hv hg k (by omega)
    have hb : 0 ≤ mnK b l (k + 1) := by
      have key : ∀ j, j ≤ l.length → 0 ≤ mnK b l j := by
        intro j
        induction j with
        | zero => intro _; exact (dsK_bd hv (hg _ (mem_getD (by omega : 0 < l.length))) _ (Nat.le_refl _)).1
        | succ j ih2 =>
          intro hj
          have a1 := ih2 (by omega)
          have a2 := (dsK_bd hv (hg _ (mem_getD (by omega : j < l.length))) _ (Nat.le_refl _)).1
          unfold mnK
          have a3 : 0 ≤ dsI b (l[j]?.getD default) := a2
          omega
      exact key _ (by omega)
    have e1 : ldK b l (k + 1 + 1) = if ldK b l (k + 1) < 0 ∨ dsI b (l[k + 1]?.getD default) < ldK b l (k + 1) then dsI b (l[k + 1]?.getD default) else ldK b l (k + 1) := rfl
    have e2 : mnK b l (k + 1 + 1) = min (mnK b l (k + 1)) (dsI b (l[k + 1]?.getD default)) := rfl
    rw [e1, e2, ih]
    split <;> omega
def dayR (b : FB) : AV := .tup [.int (if chkB b then ldK b (lrgL b) (lrgL b).length else 0), .int (errF b)]

theorem c18 (b : FB) (hs : SmF b) : Ctr Try.prog 18 [FK b] (dayR b) := by
  refine ctr_of_wp hmix Try.func18 m18 rfl ?_
  unfold v18 dayR
  have k1 := c49 b hs
  unfold errF at k1 ⊢
  cases hc : chkB b with
  | false =>
    rw [hc] at k1
    simp -failIfUnchanged (disch := first | omega | (simp <;> omega) | fail) only [go_sem, simprocAttr]
    refine wcall k1 ?_
    simp -failIfUnchanged (disch := first | omega | (simp <;> omega) | fail) only [go_sem, simprocAttr]
    try simp
  | true =>
    rw [hc] at k1
    have hv := vf_of hc
    have k2 := c66 b hv
    have h0 : 0 < (lrgL b).length := List.length_pos_iff.2 (lrgL_ne b)
    have hgm : ∀ x ∈ lrgL b, GM b b.ones.length x := fun x hx => (mem_lrg.1 hx).1
    have hsm := lrg_small hv
    generalize lrgL b = M at k2 hgm h0 hsm ⊢
    have hlm : ldK b M M.length = mnK b M M.length := by
      have := ld_mn hv hgm (M.length - 1) (by omega)
      rwa [show M.length - 1 + 1 = M.length by omega] at this
    rw [hlm]
    have c55a : ∀ i, i < M.length → Ctr Try.prog 55 [FK b, PS (M[i]?.getD default)] (.int (dsI b (M[i]?.getD default))) := fun i hi => c55 b hv _ (hgm _ (mem_getD hi))
    have hat : ∀ i, i < M.length → (M.map PS)[i]?.getD .nul = PS (M[i]?.getD default) := fun i hi => by simp [hi]
    have c0 := c55a 0 h0
    have e0 := hat 0 h0
    simp -failIfUnchanged (disch := first | omega | (simp <;> omega) | fail) only [go_sem, simprocAttr]
    refine wcall k1 ?_
    simp -failIfUnchanged (disch := first | omega | (simp <;> omega) | fail) only [go_sem, simprocAttr]
    refine wcall k2 ?_
    simp -failIfUnchanged (disch := first | omega | (simp <;> omega) | fail) only [go_sem, simprocAttr, e0]
    refine wcall c0 ?_
    simp -failIfUnchanged (disch := first | omega | (simp <;> omega) | fail) only [go_sem, simprocAttr]
    refine wp_loop' Nat (fun i => ⟨[(1, .ptr 1 0), (5, .sl 1 (M.map PS) .sh), (6, .int (mnK b M i)), (7, .int i)], [(1, ⟨FKc b, false⟩)], [], none⟩) (fun i => i ≤ M.length) (fun i => M.length - i) 0 (by simp) (by simp -failIfUnchanged (disch := first | omega | (simp <;> omega) | fail) only [go_sem, simprocAttr]; simp [mnK]) ?_
    intro i hi
    have hi : i ≤ M.length := hi
    simp -failIfUnchanged (disch := first | omega | (simp <;> omega) | fail) only [go_sem, simprocAttr]
    refine wcond_dec (fun h1 => ?_) (fun h1 => ?_)
    · have hil : i < M.length := by omega
      have c1 := c55a i hil
      have e1 := hat i hil
      have hst : mnK b M (i + 1) = min (mnK b M i) (dsI b (M[i]?.getD default)) := rfl
      simp -failIfUnchanged (disch := first | omega | (simp <;> omega) | fail) only [go_sem, simprocAttr, e1]
      refine wcall c1 ?_
      simp -failIfUnchanged (disch := first | omega | (simp <;> omega) | fail) only [go_sem, simprocAttr]
      refine ⟨i + 1, by dsimp only; omega, by dsimp only; omega, ?_⟩
      dsimp only
      rw [hst]
      simp -failIfUnchanged (disch := first | omega | (simp <;> omega) | fail) only [go_sem, simprocAttr]
      try simp
    · have e : i = M.length := by omega
      subst e
      simp -failIfUnchanged (disch := first | omega | (simp <;> omega) | fail) only [go_sem, simprocAttr]
      try simp

theorem sm_lat {b : FB} (hs : SmF b) (l : Int) : SmF (lat b l) := ⟨hs.ones, hs.others⟩
theorem c20 (b : FB) (hs : SmF b) : Ctr Try.prog 20 [FK b] (ltR b) := by
  refine ctr_of_wp hmix Try.func20 m20 rfl ?_
  unfold v20 ltR
  have k1 := c49 b hs
  unfold errF at k1 ⊢
  cases hc : chkB b with
  | false =>
    rw [hc] at k1
    simp -failIfUnchanged (disch := first | omega | (simp <;> omega) | fail) only [go_sem, simprocAttr]
    refine wcall k1 ?_
    simp -failIfUnchanged (disch := first | omega | (simp <;> omega) | fail) only [go_sem, simprocAttr]
    try simp
  | true =>
    rw [hc] at k1
    have hv := vf_of hc
    have k2 : ∀ l : Nat, l ≤ 30 → Ctr Try.prog 66 [FK (lat b l)] (.sl 1 ((lrgL (lat b l)).map PS) .sh) := fun l hl => c66 _ (vf_lat hv (by omega))
    have k3 : ∀ l : Nat, Ctr Try.prog 34 [FK b, .int l] (FK (lat b l)) := fun l => c34 b hs l
    have k30 := k2 30 (by omega)
    have k31 := k3 30
    have e30 : ((30 : Nat) : Int) = 30 := rfl
    rw [e30] at k30 k31
    have hat : ∀ l : Int, ((lrgL (lat b l)).map PS)[0]?.getD .nul = PS (fstM (lat b l)) := fun l => fst_at
    have h0 : ∀ l : Int, 0 < (lrgL (lat b l)).length := fun l => List.length_pos_iff.2 (lrgL_ne _)
    have hP : ∀ l : Nat, ltP b l = decide ((fstM (lat b 30)).length ≤ (fstM (lat b l)).length) := fun l => by
      unfold ltP fewI
      apply decide_eq_decide.2
      show ((b.ones.length : Int) + b.others.length - _ ≤ (b.ones.length : Int) + b.others.length - _) ↔ _
      omega
    have hf : ∀ l : Int, (lrgL (lat b l))[0]?.getD default = fstM (lat b l) := fun l => rfl
    have hf30 := hf 30
    have at30 := hat 30
    have h30 := h0 30
    unfold ltN
    simp -failIfUnchanged (disch := first | omega | (simp <;> omega) | fail) only [go_sem, simprocAttr]
    refine wcall k1 ?_
    simp -failIfUnchanged (disch := first | omega | (simp <;> omega) | fail) only [go_sem, simprocAttr]
    refine wcall k31 ?_
    simp -failIfUnchanged (disch := first | omega | (simp <;> omega) | fail) only [go_sem, simprocAttr]
    refine wcall k30 ?_
    simp -failIfUnchanged (disch := first | omega | (simp <;> omega) | fail) only [go_sem, simprocAttr, at30, hf30]
    refine wp_loop' Nat (fun l => ⟨[(1, .ptr 1 0), (5, .int ((fstM (lat b 30)).length : Nat)), (6, .int l)], [(1, ⟨[.int b.base, .int b.places, .int b.persons, .int b.late, ES b.ones, ES b.others], false⟩)], [], none⟩) (fun l => l ≤ 30 ∧ ∀ i, i < l → ltP b i = false) (fun l => 30 - l) 0 (by simp) (by simp -failIfUnchanged (disch := first | omega | (simp <;> omega) | fail) only [go_sem, simprocAttr]; try simp) ?_
    rintro l ⟨hl, hpre⟩
    have k4 := k2 l hl
    have k5 := k3 l
    have at1 := hat l
    have hf1 := hf l
    have h1 := h0 l
    simp -failIfUnchanged (disch := first | omega | (simp <;> omega) | fail) only [go_sem, simprocAttr]
    refine wcall k5 ?_
    simp -failIfUnchanged (disch := first | omega | (simp <;> omega) | fail) only [go_sem, simprocAttr]
    refine wcall k4 ?_
    simp -failIfUnchanged (disch := first | omega | (simp <;> omega) | fail) only [go_sem, simprocAttr, at1, hf1]
    refine wcond_dec (fun h1 => ?_) (fun h1 => ?_)
    · have hl30 : l ≠ 30 := fun e => by subst e; rw [e30] at h1; omega
      have hPl : ltP b l = false := by rw [hP]; exact decide_eq_false (by omega)
      simp -failIfUnchanged (disch := first | omega | (simp <;> omega) | fail) only [go_sem, simprocAttr]
      refine ⟨l + 1, ⟨by omega, fun i hi => ?_⟩, by dsimp only; omega, ?_⟩
      · by_cases e : i = l
        · subst e; exact hPl
        · exact hpre i (by omega)
      · simp -failIfUnchanged (disch := first | omega | (simp <;> omega) | fail) only [go_sem, simprocAttr]
        try simp
    · have hPl : ltP b l = true := by rw [hP]; exact decide_eq_true (by omega)
      rw [fstN_eq hl hpre (.inr hPl)]
      simp -failIfUnchanged (disch := first | omega | (simp <;> omega) | fail) only [go_sem, simprocAttr]
      try simp

theorem far_f {b : FB} (h : farF b = false) : SmF b := by
  unfold farF at h
  rw [Bool.or_eq_false_iff] at h
  exact smf_of h.1

theorem c3 (b : FB) : Ctr Try.prog 3 [FK b] (.bool true) := by
  refine ctr_of_wp hmix Try.func3 m3 rfl ?_
  unfold v3
  simp -failIfUnchanged (disch := first | omega | (simp <;> omega) | fail) only [go_sem, simprocAttr]
  refine wcall (c14 b) ?_
  cases hf : farF b with
  | true =>
    simp -failIfUnchanged (disch := first | omega | (simp <;> omega) | fail) only [go_sem, simprocAttr]
    refine wcall c15 ?_
    simp -failIfUnchanged (disch := first | omega | (simp <;> omega) | fail) only [go_sem, simprocAttr]
  | false =>
    have hs := far_f hf
    have a1 := c17 b hs
    have a2 := c18 b hs
    have a3 := c19 b hs
    have a4 := c20 b hs
    unfold dayR at a2
    unfold ltR at a3 a4
    simp -failIfUnchanged (disch := first | omega | (simp <;> omega) | fail) only [go_sem, simprocAttr]
    refine wcall (c16 b hs) ?_
    simp -failIfUnchanged (disch := first | omega | (simp <;> omega) | fail) only [go_sem, simprocAttr]
    refine wcall a1 ?_
    simp -failIfUnchanged (disch := first | omega | (simp <;> omega) | fail) only [go_sem, simprocAttr]
    refine wcall a2 ?_
    simp -failIfUnchanged (disch := first | omega | (simp <;> omega) | fail) only [go_sem, simprocAttr]
    refine wcall a3 ?_
    simp -failIfUnchanged (disch := first | omega | (simp <;> omega) | fail) only [go_sem, simprocAttr]
    refine wcall a4 ?_
    simp -failIfUnchanged (disch := first | omega | (simp <;> omega) | fail) only [go_sem, simprocAttr, eq_self]
    refine wcall (c21 b hs) ?_
    simp -failIfUnchanged (disch := first | omega | (simp <;> omega) | fail) only [go_sem, simprocAttr]
    refine wcall c15 ?_
    simp -failIfUnchanged (disch := first | omega | (simp <;> omega) | fail) only [go_sem, simprocAttr]

end Go.Proofs.Ytemnojaoickjfaa

/- What a person owes, as the document has it. -/
set_option linter.unusedSimpArgs false
set_option linter.unusedVariables false
set_option linter.unnecessarySimpa false
namespace Go.Proofs.Ytemnojaoickjfaa
open Go Go.V

/-- The sums over the pairs, the entries of Ones, those of Others. -/
def dwP (b : FB) (t : List Pa) (who : Int) : Nat → Sp
  | 0 => ⟨0, 0⟩
  | k + 1 => if (one b (t[k]?.getD default).one.toNat).who = who then addS (dwP b t who k) (pcI b (one b (t[k]?.getD default).one.toNat) (oth b (t[k]?.getD default).other.toNat)) else dwP b t who k
def dw1 (b : FB) (t : List Pa) (who : Int) (s : Sp) : Nat → Sp
  | 0 => s
  | i + 1 => if (one b i).who = who ∧ inO t i = false then addS (dw1 b t who s i) (endsL b.base (one b i).cord) else dw1 b t who s i
def dw2 (b : FB) (t : List Pa) (who : Int) (s : Sp) : Nat → Sp
  | 0 => s
  | j + 1 => if (oth b j).who = who ∧ inT t j = false then addS (dw2 b t who s j) (endsL b.base (oth b j).cord) else dw2 b t who s j
def dwI (b : FB) (t : List Pa) (who : Int) : Sp := dw2 b t who (dw1 b t who (dwP b t who t.length) b.ones.length) b.others.length

theorem dwP_bd {b : FB} (hv : VF b) {t : List Pa} (hg : GM b b.ones.length t) (who : Int) : ∀ k : Nat, k ≤ t.length → SpB (dwP b t who k) k
  | 0, _ => ⟨Int.le_refl _, Int.le_refl _, by simp [dwP]⟩
  | k + 1, hk => by
    have ih := dwP_bd hv hg who k (by omega)
    obtain ⟨i, j, e, hi, hj, hc⟩ := gm_at hg (k := k) (by omega)
    unfold dwP
    rw [e]
    simp only [Int.toNat_natCast]
    split
    · exact spB_le (spB_add ih (ends_bd hv (com_v2 hv hi hj hc))) (by omega)
    · exact spB_le ih (by omega)
theorem dw1_bd {b : FB} (hv : VF b) (t : List Pa) (who : Int) {s : Sp} {n : Int} (hs : SpB s n) : ∀ k : Nat, k ≤ b.ones.length → SpB (dw1 b t who s k) (n + k)
  | 0, _ => by simpa [dw1] using hs
  | k + 1, hk => by
    have ih := dw1_bd hv t who hs k (by omega)
    unfold dw1
    split
    · exact spB_le (spB_add ih (ends_bd hv (one_v hv (by omega)).c)) (by omega)
    · exact spB_le ih (by omega)
theorem dw2_bd {b : FB} (hv : VF b) (t : List Pa) (who : Int) {s : Sp} {n : Int} (hs : SpB s n) : ∀ k : Nat, k ≤ b.others.length → SpB (dw2 b t who s k) (n + k)
  | 0, _ => by simpa [dw2] using hs
  | k + 1, hk => by
    have ih := dw2_bd hv t who hs k (by omega)
    unfold dw2
    split
    · exact spB_le (spB_add ih (ends_bd hv (oth_v hv (by omega)).c)) (by omega)
    · exact spB_le ih (by omega)
theorem c91s (a c : Sp) {n : Int} (ha : SpB a n) (hn : n ≤ 100) (hc : 0 ≤ c.lo ∧ c.lo ≤ c.hi ∧ c.hi < 10000) : Ctr Try.prog 91 [SP a, SP c] (SP (addS a c)) := by
  have k := c91 a c
  have := ha.l
  have := ha.m
  have := ha.h
  rw [w64_id (by omega), w64_id (by omega)] at k
  exact k

set_option maxRecDepth 10000 in
theorem c57 (b : FB) (hv : VF b) (t : List Pa) (hg : GM b b.ones.length t) (who : Int) : Ctr Try.prog 57 [FK b, PS t, .int who] (SP (dwI b t who)) := by
  refine ctr_of_wp hmix Try.func57 m57 rfl ?_
  unfold v57 dwI
  have htl := gm_len hg
  have hn1 := hv.n1
  have hn2 := hv.n2
  have hbp := bp_of hv
  have hpl := hv.pl
  simp -failIfUnchanged (disch := first | omega | (simp <;> omega) | fail) only [go_sem, simprocAttr]
  refine wp_loop' Nat (fun k => ⟨[(1, PS t), (2, .int who), (3, .ptr 3 0), (6, .ptr 6 0), (7, .ptr 7 0), (8, .int k)], [(7, ⟨[.int (dwP b t who k).lo, .int (dwP b t who k).hi], false⟩), (6, ⟨[.int 0, .int 0], false⟩), (3, ⟨FKc b, false⟩)], [], none⟩) (fun k => k ≤ t.length) (fun k => t.length - k) 0 (by simp) (by simp -failIfUnchanged (disch := first | omega | (simp <;> omega) | fail) only [go_sem, simprocAttr]; simp [dwP]) ?_
  intro k hk
  have hk : k ≤ t.length := hk
  simp -failIfUnchanged (disch := first | omega | (simp <;> omega) | fail) only [go_sem, simprocAttr]
  refine wcond_dec (fun h1 => ?_) (fun h1 => ?_)
  · have hkl : k < t.length := by omega
    obtain ⟨p, q, e, hp, hq, hc⟩ := gm_at hg hkl
    have hst : dwP b t who (k + 1) = if (one b p).who = who then addS (dwP b t who k) (pcI b (one b p) (oth b q)) else dwP b t who k := by
      simp only [dwP, e, Int.toNat_natCast]
    have hbd := dwP_bd hv hg who k (by omega)
    have hvc := com_v2 hv hp hq hc
    have hfb : fitB (comL (one b p).cord (oth b q).cord) = true := by
      unfold comB at hc
      simp only [Bool.and_eq_true] at hc
      exact hc.2.2
    have x2 := (oth_v hv hq).c
    have hx2 := x2.n
    have k87 := c87 b hbp (one b p) (oth b q) (one_v hv hp).c x2 (by omega) hfb
    have k91 := c91s (dwP b t who k) (pcI b (one b p) (oth b q)) hbd (by omega) (ends_bd hv hvc)
    have g1 : b.ones[p]?.getD default = one b p := rfl
    have g2 : b.others[q]?.getD default = oth b q := rfl
    generalize dwP b t who k = S at *
    simp -failIfUnchanged (disch := first | omega | (simp <;> omega) | fail) only [go_sem, simprocAttr, e, g1]
    refine wcond_dec (fun h2 => ?_) (fun h2 => ?_)
    · rw [if_pos h2] at hst
      simp -failIfUnchanged (disch := first | omega | (simp <;> omega) | fail) only [go_sem, simprocAttr, e, g2]
      refine wcall k87 ?_
      simp -failIfUnchanged (disch := first | omega | (simp <;> omega) | fail) only [go_sem, simprocAttr]
      refine wcall k91 ?_
      simp -failIfUnchanged (disch := first | omega | (simp <;> omega) | fail) only [go_sem, simprocAttr]
      refine ⟨k + 1, by dsimp only; omega, by dsimp only; omega, ?_⟩
      dsimp only
      rw [hst]
      simp -failIfUnchanged (disch := first | omega | (simp <;> omega) | fail) only [go_sem, simprocAttr]
      try simp
    · rw [if_neg h2] at hst
      simp -failIfUnchanged (disch := first | omega | (simp <;> omega) | fail) only [go_sem, simprocAttr]
      refine ⟨k + 1, by dsimp only; omega, by dsimp only; omega, ?_⟩
      dsimp only
      rw [hst]
      simp -failIfUnchanged (disch := first | omega | (simp <;> omega) | fail) only [go_sem, simprocAttr]
      try simp
  · have ek : k = t.length := by omega
    subst ek
    have hbd0 := dwP_bd hv hg who t.length (Nat.le_refl _)
    generalize dwP b t who t.length = S0 at *
    simp -failIfUnchanged (disch := first | omega | (simp <;> omega) | fail) only [go_sem, simprocAttr]
    refine wp_loop' Nat (fun i => ⟨[(1, PS t), (2, .int who), (3, .ptr 3 0), (6, .ptr 6 0), (7, .ptr 7 0), (10, .int i)], [(7, ⟨[.int (dw1 b t who S0 i).lo, .int (dw1 b t who S0 i).hi], false⟩), (6, ⟨[.int 0, .int 0], false⟩), (3, ⟨FKc b, false⟩)], [], none⟩) (fun i => i ≤ b.ones.length) (fun i => b.ones.length - i) 0 (by simp) (by simp -failIfUnchanged (disch := first | omega | (simp <;> omega) | fail) only [go_sem, simprocAttr]; simp [dw1]) ?_
    intro i hi
    have hi : i ≤ b.ones.length := hi
    simp -failIfUnchanged (disch := first | omega | (simp <;> omega) | fail) only [go_sem, simprocAttr]
    refine wcond_dec (fun h2 => ?_) (fun h2 => ?_)
    · have hil : i < b.ones.length := by omega
      have hve := one_v hv hil
      have hst : dw1 b t who S0 (i + 1) = if (one b i).who = who ∧ inO t i = false then addS (dw1 b t who S0 i) (endsL b.base (one b i).cord) else dw1 b t who S0 i := rfl
      have hbd := dw1_bd hv t who hbd0 i (by omega)
      have k44 := c44 t i (by omega)
      have k92 := c92 b hbp _ (cd_iff.2 hve.c)
      have k91 := c91s (dw1 b t who S0 i) (endsL b.base (one b i).cord) hbd (by omega) (ends_bd hv hve.c)
      have g1 : b.ones[i]?.getD default = one b i := rfl
      obtain ⟨u, hu⟩ : ∃ u, (t.any fun p => decide (p.one = (i : Int))) = u := ⟨_, rfl⟩
      have hu2 : inO t i = u := hu
      rw [hu2] at hst
      rw [hu] at k44
      generalize dw1 b t who S0 i = S at *
      obtain ⟨w, hw⟩ : ∃ w, decide ((one b i).who = who) = w := ⟨_, rfl⟩
      simp -failIfUnchanged (disch := first | omega | (simp <;> omega) | fail) only [go_sem, simprocAttr, g1, hw]
      cases w with
      | false =>
        have hw := of_decide_eq_false hw
        rw [if_neg (fun x => hw x.1)] at hst
        simp -failIfUnchanged (disch := first | omega | (simp <;> omega) | fail) only [go_sem, simprocAttr]
        refine ⟨i + 1, by dsimp only; omega, by dsimp only; omega, ?_⟩
        dsimp only
        rw [hst]
        simp -failIfUnchanged (disch := first | omega | (simp <;> omega) | fail) only [go_sem, simprocAttr]
        try simp
      | true =>
        have hw := of_decide_eq_true hw
        simp -failIfUnchanged (disch := first | omega | (simp <;> omega) | fail) only [go_sem, simprocAttr]
        refine wcall k44 ?_
        cases u with
        | true =>
          rw [if_neg (fun x => by cases x.2)] at hst
          simp -failIfUnchanged (disch := first | omega | (simp <;> omega) | fail) only [go_sem, simprocAttr]
          refine ⟨i + 1, by dsimp only; omega, by dsimp only; omega, ?_⟩
          dsimp only
          rw [hst]
          simp -failIfUnchanged (disch := first | omega | (simp <;> omega) | fail) only [go_sem, simprocAttr]
          try simp
        | false =>
          rw [if_pos ⟨hw, rfl⟩] at hst
          simp -failIfUnchanged (disch := first | omega | (simp <;> omega) | fail) only [go_sem, simprocAttr, g1]
          refine wcall k92 ?_
          simp -failIfUnchanged (disch := first | omega | (simp <;> omega) | fail) only [go_sem, simprocAttr]
          refine wcall k91 ?_
          simp -failIfUnchanged (disch := first | omega | (simp <;> omega) | fail) only [go_sem, simprocAttr]
          refine ⟨i + 1, by dsimp only; omega, by dsimp only; omega, ?_⟩
          dsimp only
          rw [hst]
          simp -failIfUnchanged (disch := first | omega | (simp <;> omega) | fail) only [go_sem, simprocAttr]
          try simp
    · have ei : i = b.ones.length := by omega
      subst ei
      have hbd1 := dw1_bd hv t who hbd0 b.ones.length (Nat.le_refl _)
      generalize dw1 b t who S0 b.ones.length = S1 at *
      simp -failIfUnchanged (disch := first | omega | (simp <;> omega) | fail) only [go_sem, simprocAttr]
      refine wp_loop' Nat (fun i => ⟨[(1, PS t), (2, .int who), (3, .ptr 3 0), (6, .ptr 6 0), (7, .ptr 7 0), (11, .int i)], [(7, ⟨[.int (dw2 b t who S1 i).lo, .int (dw2 b t who S1 i).hi], false⟩), (6, ⟨[.int 0, .int 0], false⟩), (3, ⟨FKc b, false⟩)], [], none⟩) (fun i => i ≤ b.others.length) (fun i => b.others.length - i) 0 (by simp) (by simp -failIfUnchanged (disch := first | omega | (simp <;> omega) | fail) only [go_sem, simprocAttr]; simp [dw2]) ?_
      intro i hi
      have hi : i ≤ b.others.length := hi
      simp -failIfUnchanged (disch := first | omega | (simp <;> omega) | fail) only [go_sem, simprocAttr]
      refine wcond_dec (fun h2 => ?_) (fun h2 => ?_)
      · have hil : i < b.others.length := by omega
        have hve := oth_v hv hil
        have hst : dw2 b t who S1 (i + 1) = if (oth b i).who = who ∧ inT t i = false then addS (dw2 b t who S1 i) (endsL b.base (oth b i).cord) else dw2 b t who S1 i := rfl
        have hbd := dw2_bd hv t who hbd1 i (by omega)
        have k45 := c45 t i (by omega)
        have k92 := c92 b hbp _ (cd_iff.2 hve.c)
        have k91 := c91s (dw2 b t who S1 i) (endsL b.base (oth b i).cord) hbd (by omega) (ends_bd hv hve.c)
        have g1 : b.others[i]?.getD default = oth b i := rfl
        obtain ⟨u, hu⟩ : ∃ u, (t.any fun p => decide (p.other = (i : Int))) = u := ⟨_, rfl⟩
        have hu2 : inT t i = u := hu
        rw [hu2] at hst
        rw [hu] at k45
        generalize dw2 b t who S1 i = S at *
        obtain ⟨w, hw⟩ : ∃ w, decide ((oth b i).who = who) = w := ⟨_, rfl⟩
        simp -failIfUnchanged (disch := first | omega | (simp <;> omega) | fail) only [go_sem, simprocAttr, g1, hw]
        cases w with
        | false =>
          have hw := of_decide_eq_false hw
          rw [if_neg (fun x => hw x.1)] at hst
          simp -failIfUnchanged (disch := first | omega | (simp <;> omega) | fail) only [go_sem, simprocAttr]
          refine ⟨i + 1, by dsimp only; omega, by dsimp only; omega, ?_⟩
          dsimp only
          rw [hst]
          simp -failIfUnchanged (disch := first | omega | (simp <;> omega) | fail) only [go_sem, simprocAttr]
          try simp
        | true =>
          have hw := of_decide_eq_true hw
          simp -failIfUnchanged (disch := first | omega | (simp <;> omega) | fail) only [go_sem, simprocAttr]
          refine wcall k45 ?_
          cases u with
          | true =>
            rw [if_neg (fun x => by cases x.2)] at hst
            simp -failIfUnchanged (disch := first | omega | (simp <;> omega) | fail) only [go_sem, simprocAttr]
            refine ⟨i + 1, by dsimp only; omega, by dsimp only; omega, ?_⟩
            dsimp only
            rw [hst]
            simp -failIfUnchanged (disch := first | omega | (simp <;> omega) | fail) only [go_sem, simprocAttr]
            try simp
          | false =>
            rw [if_pos ⟨hw, rfl⟩] at hst
            simp -failIfUnchanged (disch := first | omega | (simp <;> omega) | fail) only [go_sem, simprocAttr, g1]
            refine wcall k92 ?_
            simp -failIfUnchanged (disch := first | omega | (simp <;> omega) | fail) only [go_sem, simprocAttr]
            refine wcall k91 ?_
            simp -failIfUnchanged (disch := first | omega | (simp <;> omega) | fail) only [go_sem, simprocAttr]
            refine ⟨i + 1, by dsimp only; omega, by dsimp only; omega, ?_⟩
            dsimp only
            rw [hst]
            simp -failIfUnchanged (disch := first | omega | (simp <;> omega) | fail) only [go_sem, simprocAttr]
            try simp
      · have ei : i = b.others.length := by omega
        subst ei
        simp -failIfUnchanged (disch := first | omega | (simp <;> omega) | fail) only [go_sem, simprocAttr]
        try simp

end Go.Proofs.Ytemnojaoickjfaa

/- What a person owes by a matching: both sides' sums are the same. -/
set_option linter.unusedSimpArgs false
set_option linter.unusedVariables false
set_option linter.unnecessarySimpa false
namespace Go.Proofs.Ytemnojaoickjfaa
open Go Go.V

def zS : Sp := ⟨0, 0⟩
theorem sp_ext {a c : Sp} (h1 : a.lo = c.lo) (h2 : a.hi = c.hi) : a = c := by
  cases a; cases c; simp at h1 h2; rw [h1, h2]
theorem addS_comm (a c : Sp) : addS a c = addS c a := sp_ext (Int.add_comm _ _) (Int.add_comm _ _)
theorem addS_assoc (a c d : Sp) : addS (addS a c) d = addS a (addS c d) := sp_ext (Int.add_assoc _ _ _) (Int.add_assoc _ _ _)
theorem addS_z (a : Sp) : addS a zS = a := sp_ext (Int.add_zero _) (Int.add_zero _)
theorem z_addS (a : Sp) : addS zS a = a := sp_ext (Int.zero_add _) (Int.zero_add _)
theorem addS_4 (a c d e : Sp) : addS (addS a c) (addS d e) = addS (addS a d) (addS c e) := sp_ext (by unfold addS; dsimp only; omega) (by unfold addS; dsimp only; omega)
def sS (f : Nat → Sp) : Nat → Sp
  | 0 => zS
  | n + 1 => addS (sS f n) (f n)
def lS (F : Pa → Sp) : List Pa → Sp
  | [] => zS
  | p :: r => addS (F p) (lS F r)
theorem sS_add (f g : Nat → Sp) : ∀ n, sS (fun j => addS (f j) (g j)) n = addS (sS f n) (sS g n)
  | 0 => (addS_z zS).symm
  | n + 1 => by
    unfold sS
    rw [sS_add f g n, addS_4]
theorem sS_congr {f g : Nat → Sp} : ∀ {n : Nat}, (∀ j, j < n → f j = g j) → sS f n = sS g n
  | 0, _ => rfl
  | n + 1, h => by
    unfold sS
    rw [sS_congr (fun j hj => h j (by omega)), h n (by omega)]
theorem sS_z : ∀ n, sS (fun _ => zS) n = zS
  | 0 => rfl
  | n + 1 => by unfold sS; rw [sS_z n, addS_z]
theorem sS_one (c : Nat) (x : Sp) : ∀ n, sS (fun j => if c = j then x else zS) n = if c < n then x else zS
  | 0 => rfl
  | n + 1 => by
    unfold sS
    rw [sS_one c x n]
    by_cases h : c < n
    · rw [if_pos h, if_neg (by omega), if_pos (by omega), addS_z]
    · rw [if_neg h]
      by_cases e : c = n
      · rw [if_pos e, if_pos (by omega), z_addS]
      · rw [if_neg e, if_neg (by omega), addS_z]
theorem lS_app (F : Pa → Sp) : ∀ (l r : List Pa), lS F (l ++ r) = addS (lS F l) (lS F r)
  | [], r => (z_addS _).symm
  | p :: l, r => by
    show addS (F p) (lS F (l ++ r)) = _
    rw [lS_app F l r, ← addS_assoc]
    rfl
/-- What the pair of an entry adds. -/
def hitS (F : Pa → Sp) : List Pa → Nat → Sp
  | [], _ => zS
  | p :: r, j => if p.other = (j : Int) then F p else hitS F r j
theorem hitS_no (F : Pa → Sp) : ∀ {l : List Pa} {j : Nat}, (∀ p ∈ l, p.other ≠ (j : Int)) → hitS F l j = zS
  | [], _, _ => rfl
  | p :: r, j, h => by
    unfold hitS
    rw [if_neg (h p (by simp)), hitS_no F fun q hq => h q (by simp [hq])]
theorem hitS_at (F : Pa → Sp) : ∀ {l : List Pa} {j : Nat} {p : Pa}, (l.Pairwise fun p q => p.other ≠ q.other) → p ∈ l → p.other = (j : Int) → hitS F l j = F p
  | [], _, _, _, h, _ => by simp at h
  | q :: r, j, p, hd, hp, hj => by
    unfold hitS
    rcases List.mem_cons.1 hp with rfl | hp
    · rw [if_pos hj]
    · have := (List.pairwise_cons.1 hd).1 p hp
      rw [if_neg (fun e => this (by rw [e, hj])), hitS_at F (List.pairwise_cons.1 hd).2 hp hj]
theorem sS_hit (F : Pa → Sp) (n : Nat) : ∀ {l : List Pa}, (l.Pairwise fun p q => p.other ≠ q.other) → (∀ p ∈ l, 0 ≤ p.other ∧ p.other < (n : Int)) → sS (hitS F l) n = lS F l
  | [], _, _ => sS_z n
  | p :: r, hd, hb => by
    have ih := sS_hit F n (List.pairwise_cons.1 hd).2 fun q hq => hb q (by simp [hq])
    have hp := hb p (by simp)
    have e : sS (hitS F (p :: r)) n = sS (fun j => addS (if p.other.toNat = j then F p else zS) (hitS F r j)) n := by
      refine sS_congr fun j hj => ?_
      show (if p.other = (j : Int) then F p else hitS F r j) = _
      by_cases e : p.other = (j : Int)
      · rw [if_pos e, if_pos (by omega), hitS_no F fun q hq => by
          have := (List.pairwise_cons.1 hd).1 q hq
          intro e2
          exact this (by rw [e, e2]), addS_z]
      · rw [if_neg e, if_neg (by omega), z_addS]
    rw [e, sS_add, sS_one, if_pos (by omega), ih]
    rfl

/-! The sums. -/
def prF (b : FB) (who : Int) (p : Pa) : Sp := if (one b p.one.toNat).who = who then pcI b (one b p.one.toNat) (oth b p.other.toNat) else zS
def onF (b : FB) (t : List Pa) (who : Int) (i : Nat) : Sp := if (one b i).who = who ∧ inO t i = false then endsL b.base (one b i).cord else zS
def otF (b : FB) (t : List Pa) (who : Int) (j : Nat) : Sp := if (oth b j).who = who ∧ inT t j = false then endsL b.base (oth b j).cord else zS
def owC (b : FB) (t : List Pa) (who : Int) : Sp := addS (lS (prF b who) t) (addS (sS (onF b t who) b.ones.length) (sS (otF b t who) b.others.length))

theorem dwP_eq (b : FB) (t : List Pa) (who : Int) : ∀ k, k ≤ t.length → dwP b t who k = lS (prF b who) (t.take k)
  | 0, _ => by simp [dwP, lS, zS]
  | k + 1, h => by
    have ih := dwP_eq b t who k (by omega)
    obtain ⟨p, hp⟩ : ∃ p, t[k]?.getD default = p := ⟨_, rfl⟩
    have hts : t.take (k + 1) = t.take k ++ [p] := by
      have e2 : t[k] = p := by rw [← hp, List.getElem?_eq_getElem (by omega)]; rfl
      rw [List.take_add_one, List.getElem?_eq_getElem (by omega), e2]; rfl
    unfold dwP
    rw [hp, hts, lS_app, ← ih]
    unfold lS lS prF
    by_cases h1 : (one b p.one.toNat).who = who
    · rw [if_pos h1, if_pos h1, addS_z]
    · rw [if_neg h1, if_neg h1, addS_z, addS_z]
theorem dw1_eq (b : FB) (t : List Pa) (who : Int) (s : Sp) : ∀ k, dw1 b t who s k = addS s (sS (onF b t who) k)
  | 0 => (addS_z s).symm
  | k + 1 => by
    unfold dw1 sS
    rw [dw1_eq b t who s k]
    unfold onF
    split
    · rw [addS_assoc]
    · rw [addS_z]
theorem dw2_eq (b : FB) (t : List Pa) (who : Int) (s : Sp) : ∀ k, dw2 b t who s k = addS s (sS (otF b t who) k)
  | 0 => (addS_z s).symm
  | k + 1 => by
    unfold dw2 sS
    rw [dw2_eq b t who s k]
    unfold otF
    split
    · rw [addS_assoc]
    · rw [addS_z]
theorem dw_eq (b : FB) (t : List Pa) (who : Int) : dwI b t who = owC b t who := by
  unfold dwI owC
  rw [dw2_eq, dw1_eq, dwP_eq b t who _ (Nat.le_refl _), List.take_length, addS_assoc]
theorem ow1_eq (b : FB) (t : List Pa) (who : Int) : ∀ k, ow1K b t who k = sS (onF b t who) k
  | 0 => rfl
  | k + 1 => by
    unfold ow1K sS
    rw [ow1_eq b t who k]
    unfold onF
    by_cases h : (one b k).who = who ∧ inO t k = false
    · rw [if_pos ⟨h.2, h.1⟩, if_pos h]
    · rw [if_neg (fun x => h ⟨x.2, x.1⟩), if_neg h, addS_z]
theorem any_inT {t : List Pa} {j : Nat} : inT t j = false ↔ ∀ p ∈ t, p.other ≠ (j : Int) := by
  unfold inT
  rw [List.any_eq_false]
  simp
theorem idx_neg {α : Type} {p : α → Bool} {l : List α} : idxF p l < 0 ↔ l.any p = false := by
  unfold idxF
  cases h : l.any p with
  | true => simp
  | false => simp
theorem oth_eq {b : FB} {t : List Pa} (hg : GM b b.ones.length t) (who : Int) {j : Nat} (hj : j < b.others.length) : (if (oth b j).who = who then othS b t j else zS) = addS (hitS (prF b who) t j) (otF b t who j) := by
  unfold othS otF
  by_cases hn : idxF (fun p : Pa => decide (p.other = (j : Int))) t < 0
  · rw [if_pos hn]
    have h1 := idx_neg.1 hn
    have h2 : inT t j = false := h1
    rw [hitS_no _ (any_inT.1 h2), z_addS]
    by_cases h : (oth b j).who = who
    · rw [if_pos h, if_pos ⟨h, h2⟩]
    · rw [if_neg h, if_neg (fun x => h x.1)]
  · rw [if_neg hn]
    obtain ⟨k, e1, hk, hkp⟩ := idx_at hn
    obtain ⟨p, q, e, hp, hq, hc⟩ := gm_at hg hk
    rw [e1, Int.toNat_natCast, e]
    rw [e] at hkp
    have hkp := of_decide_eq_true hkp
    dsimp only at hkp
    have : q = j := by omega
    subst this
    have h2 : inT t q = true := by
      cases h : inT t q with
      | true => rfl
      | false => exact absurd (idx_neg.2 h) hn
    have hmem : (⟨(p : Int), (q : Int)⟩ : Pa) ∈ t := by rw [← e]; exact mem_getD hk
    have hnn : ¬ ((oth b q).who = who ∧ true = false) := by simp
    rw [hitS_at (prF b who) hg.d hmem rfl, h2, if_neg hnn, addS_z]
    unfold prF
    dsimp only
    simp only [Int.toNat_natCast]
    have hw : (one b p).who = (oth b q).who := by
      unfold comB at hc
      simp only [Bool.and_eq_true, decide_eq_true_eq] at hc
      exact hc.1
    rw [hw]
theorem ow2_eq {b : FB} {t : List Pa} (hg : GM b b.ones.length t) (who : Int) (s : Sp) : ∀ k, k ≤ b.others.length → ow2K b t who s k = addS s (sS (fun j => addS (hitS (prF b who) t j) (otF b t who j)) k)
  | 0, _ => (addS_z s).symm
  | k + 1, h => by
    unfold ow2K sS
    rw [ow2_eq hg who s k (by omega), ← oth_eq hg who (by omega)]
    split
    · rw [addS_assoc]
    · rw [addS_z]
/-- What the program adds. -/
theorem ow_eq {b : FB} {t : List Pa} (hg : GM b b.ones.length t) (who : Int) : owdI b t who = owC b t who := by
  unfold owdI owC
  rw [ow2_eq hg who _ _ (Nat.le_refl _), sS_add, ow1_eq, sS_hit _ _ hg.d (fun p hp => (hg.p p hp).2.1), ← addS_assoc, addS_comm (sS (onF b t who) _), addS_assoc]

end Go.Proofs.Ytemnojaoickjfaa

/- FinesOwed. -/
set_option linter.unusedSimpArgs false
set_option linter.unusedVariables false
set_option linter.unnecessarySimpa false
namespace Go.Proofs.Ytemnojaoickjfaa
open Go Go.V

theorem c57o (b : FB) (hv : VF b) (t : List Pa) (hg : GM b b.ones.length t) (who : Int) : Ctr Try.prog 57 [FK b, PS t, .int who] (SP (owdI b t who)) := by
  have := c57 b hv t hg who
  rw [dw_eq, ← ow_eq hg] at this
  exact this

theorem c30 (b : FB) (hs : SmF b) (who : Int) : Ctr Try.prog 30 [FK b, .int who] (owdR b who) := by
  refine ctr_of_wp hmix Try.func30 m30 rfl ?_
  unfold v30 owdR
  have a1 := c75 b who
  have a2 := c74 b hs (within who 0 (w64 (b.persons - 1)))
  obtain ⟨e, hE⟩ : ∃ e, owE b who = e := ⟨_, rfl⟩
  have hE' : askF b (within who 0 (w64 (b.persons - 1))) = e := hE
  rw [hE'] at a2
  rw [hE]
  simp -failIfUnchanged (disch := first | omega | (simp <;> omega) | fail) only [go_sem, simprocAttr]
  refine wcall a1 ?_
  simp -failIfUnchanged (disch := first | omega | (simp <;> omega) | fail) only [go_sem, simprocAttr]
  refine wcall a2 ?_
  by_cases h0 : e = 0
  · subst h0
    obtain ⟨hc, _⟩ := pr_0 hE'
    have hv := vf_of hc
    have k2 := c66 b hv
    have hne := lrgL_ne b
    have hgm : ∀ x ∈ lrgL b, GM b b.ones.length x := fun x hx => (mem_lrg.1 hx).1
    have h0 : 0 < (lrgL b).length := List.length_pos_iff.2 hne
    have hsm := lrg_small hv
    generalize lrgL b = M at k2 hgm h0 hsm ⊢
    have c57a : ∀ i, i < M.length → Ctr Try.prog 57 [FK b, PS (M[i]?.getD default), .int who] (SP (owdI b (M[i]?.getD default) who)) := fun i hi => c57o b hv _ (hgm _ (mem_getD hi)) who
    have hat : ∀ i, i < M.length → (M.map PS)[i]?.getD .nul = PS (M[i]?.getD default) := fun i hi => by simp [hi]
    have c0 := c57a 0 h0
    have e0 := hat 0 h0
    simp -failIfUnchanged (disch := first | omega | (simp <;> omega) | fail) only [go_sem, simprocAttr]
    refine wcall k2 ?_
    simp -failIfUnchanged (disch := first | omega | (simp <;> omega) | fail) only [go_sem, simprocAttr, e0]
    refine wcall c0 ?_
    simp -failIfUnchanged (disch := first | omega | (simp <;> omega) | fail) only [go_sem, simprocAttr]
    refine wp_loop' Nat (fun i => ⟨[(1, .int who), (2, .ptr 2 0), (4, .ptr 4 0), (7, .sl 1 (M.map PS) .sh), (8, .ptr 8 0), (9, .int i)],
        [(8, ⟨[.int (rgK b who M i).lo, .int (rgK b who M i).hi], false⟩), (4, ⟨[.int 0, .int 0], false⟩), (2, ⟨FKc b, false⟩)], [], none⟩) (fun i => i ≤ M.length) (fun i => M.length - i) 0 (by simp) (by simp -failIfUnchanged (disch := first | omega | (simp <;> omega) | fail) only [go_sem, simprocAttr]; simp [rgK]) ?_
    intro i hi
    have hi : i ≤ M.length := hi
    simp -failIfUnchanged (disch := first | omega | (simp <;> omega) | fail) only [go_sem, simprocAttr]
    refine wcond_dec (fun h1 => ?_) (fun h1 => ?_)
    · have hil : i < M.length := by omega
      have c1 := c57a i hil
      have e1 := hat i hil
      have hst : rgK b who M (i + 1) = ⟨min (rgK b who M i).lo (owdI b (M[i]?.getD default) who).lo, max (rgK b who M i).hi (owdI b (M[i]?.getD default) who).hi⟩ := rfl
      simp -failIfUnchanged (disch := first | omega | (simp <;> omega) | fail) only [go_sem, simprocAttr, e1]
      refine wcall c1 ?_
      simp -failIfUnchanged (disch := first | omega | (simp <;> omega) | fail) only [go_sem, simprocAttr]
      refine ⟨i + 1, by dsimp only; omega, by dsimp only; omega, ?_⟩
      dsimp only
      rw [hst]
      simp -failIfUnchanged (disch := first | omega | (simp <;> omega) | fail) only [go_sem, simprocAttr]
      try simp
    · have e : i = M.length := by omega
      subst e
      simp -failIfUnchanged (disch := first | omega | (simp <;> omega) | fail) only [go_sem, simprocAttr]
      try simp
  · have hd : decide (¬ e = 0) = true := decide_eq_true h0
    simp -failIfUnchanged (disch := first | omega | (simp <;> omega) | fail) only [go_sem, simprocAttr, hd]
    simp [h0]

theorem c6 (b : FB) (who : Int) : Ctr Try.prog 6 [FK b, .int who] (.bool true) := by
  refine ctr_of_wp hmix Try.func6 m6 rfl ?_
  unfold v6
  simp -failIfUnchanged (disch := first | omega | (simp <;> omega) | fail) only [go_sem, simprocAttr]
  refine wcall (c14 b) ?_
  cases hf : farF b with
  | true =>
    simp -failIfUnchanged (disch := first | omega | (simp <;> omega) | fail) only [go_sem, simprocAttr]
    refine wcall c15 ?_
    simp -failIfUnchanged (disch := first | omega | (simp <;> omega) | fail) only [go_sem, simprocAttr]
  | false =>
    have hs := far_f hf
    have a1 := c28 b hs
    have a2 := c29 b hs
    have a3 := c25 b hs who
    have a4 := c30 b hs who
    have a5 := c31 b hs
    unfold fewR at a1 a2
    unfold owdR at a3 a4
    unfold matR at a5
    cases hc : chkB b with
    | false =>
      have he : errF b = 130 := by unfold errF; rw [hc]; rfl
      have hno : decide (¬ (130 : Int) = 0) = true := by decide
      rw [hc, he] at a1 a2 a5
      simp -failIfUnchanged (disch := first | omega | (simp <;> omega) | fail) only [go_sem, simprocAttr]
      refine wcall (c16 b hs) ?_
      simp -failIfUnchanged (disch := first | omega | (simp <;> omega) | fail) only [go_sem, simprocAttr]
      refine wcall a1 ?_
      simp -failIfUnchanged (disch := first | omega | (simp <;> omega) | fail) only [go_sem, simprocAttr]
      refine wcall a2 ?_
      simp -failIfUnchanged (disch := first | omega | (simp <;> omega) | fail) only [go_sem, simprocAttr]
      refine wcall a3 ?_
      simp -failIfUnchanged (disch := first | omega | (simp <;> omega) | fail) only [go_sem, simprocAttr]
      refine wcall a4 ?_
      simp -failIfUnchanged (disch := first | omega | (simp <;> omega) | fail) only [go_sem, simprocAttr]
      refine wcall a5 ?_
      simp -failIfUnchanged (disch := first | omega | (simp <;> omega) | fail) only [go_sem, simprocAttr, eq_self]
      refine wcall (c21 b hs) ?_
      simp -failIfUnchanged (disch := first | omega | (simp <;> omega) | fail) only [go_sem, simprocAttr, hno]
      refine wcall c15 ?_
      simp -failIfUnchanged (disch := first | omega | (simp <;> omega) | fail) only [go_sem, simprocAttr]
    | true =>
      have he : errF b = 0 := by unfold errF; rw [hc]; rfl
      have hno : decide (¬ (0 : Int) = 0) = false := by decide
      have hv := vf_of hc
      have hn1 := hv.n1
      have hn2 := hv.n2
      have hg : GM b b.ones.length (fstM b) := (mem_lrg.1 (fst_most b).1).1
      have hfl := fst_len hv
      have a6 := c32 b hv (fstM b) (by omega)
      rw [(mat_gm hv).2 hg] at a6
      have hfe : fewI b = (b.ones.length : Int) + b.others.length - (fstM b).length := rfl
      rw [hc, he] at a1 a2 a5
      simp only [if_true] at a1 a2 a5
      generalize fstM b = F at *
      generalize fewI b = W at *
      subst hfe
      simp -failIfUnchanged (disch := first | omega | (simp <;> omega) | fail) only [go_sem, simprocAttr]
      refine wcall (c16 b hs) ?_
      simp -failIfUnchanged (disch := first | omega | (simp <;> omega) | fail) only [go_sem, simprocAttr]
      refine wcall a1 ?_
      simp -failIfUnchanged (disch := first | omega | (simp <;> omega) | fail) only [go_sem, simprocAttr]
      refine wcall a2 ?_
      simp -failIfUnchanged (disch := first | omega | (simp <;> omega) | fail) only [go_sem, simprocAttr]
      refine wcall a3 ?_
      simp -failIfUnchanged (disch := first | omega | (simp <;> omega) | fail) only [go_sem, simprocAttr]
      refine wcall a4 ?_
      simp -failIfUnchanged (disch := first | omega | (simp <;> omega) | fail) only [go_sem, simprocAttr]
      refine wcall a5 ?_
      simp -failIfUnchanged (disch := first | omega | (simp <;> omega) | fail) only [go_sem, simprocAttr, eq_self]
      refine wcall (c21 b hs) ?_
      simp -failIfUnchanged (disch := first | omega | (simp <;> omega) | fail) only [go_sem, simprocAttr, hno]
      refine wcall a6 ?_
      have e9 : decide ((F.length : Int) = (b.ones.length : Int) + b.others.length - ((b.ones.length : Int) + b.others.length - F.length)) = true := decide_eq_true (by omega)
      simp -failIfUnchanged (disch := first | omega | (simp <;> omega) | fail) only [go_sem, simprocAttr, e9]
      refine wcall c15 ?_
      simp -failIfUnchanged (disch := first | omega | (simp <;> omega) | fail) only [go_sem, simprocAttr]

end Go.Proofs.Ytemnojaoickjfaa

/- Maps with pairs as keys; Must. -/
set_option linter.unusedSimpArgs false
set_option linter.unusedVariables false
set_option linter.unnecessarySimpa false
namespace Go.Proofs.Ytemnojaoickjfaa
open Go Go.V Go.WideShapes

theorem bid_nilp : AV.bid .nilp = [] := rfl
theorem strip_nilp {hp : HpL} : strip hp .nilp = .nilp := rfl
theorem isUnd_nilp : AV.isUnd .nilp = false := rfl
theorem bid_mpr {l : Nat} : AV.bid (.mpr l) = [] := rfl
theorem strip_mpr {hp : HpL} {l : Nat} : strip hp (.mpr l) = .mpr l := rfl
theorem isUnd_mpr {l : Nat} : AV.isUnd (.mpr l) = false := rfl
theorem inS_mpr {τ : AS} {l : Nat} : inScope τ (.mpr l) = True := rfl
attribute [go_sem] inS_mpr bid_nilp strip_nilp isUnd_nilp bid_mpr strip_mpr isUnd_mpr

/-- A type whose cells are all integers. -/
def intT (P : Program) : Nat → TypeId → Bool
  | 0, _ => false
  | d + 1, t => match P.underlying t with
    | some (.int q) => q == .i64 && P.cellsOf t == 1
    | some (.array n e) => P.cellsOf t == n * P.cellsOf e && intT P d e
    | some (.struct fs) => fs.toList.all fun f => f.name != "_" && decide (f.offset + P.cellsOf f.type ≤ P.cellsOf t) && intT P d f.type
    | _ => false

theorem mapM_some {α β : Type} {f : α → Option β} : ∀ {l : List α}, (∀ x ∈ l, ∃ y, f x = some y) → ∃ ys, l.mapM f = some ys
  | [], _ => ⟨[], by simp⟩
  | x :: r, h => by
    obtain ⟨y, hy⟩ := h x (by simp)
    obtain ⟨ys, hys⟩ := mapM_some (l := r) fun z hz => h z (by simp [hz])
    exact ⟨y :: ys, by simp [List.mapM_cons, hy, hys]⟩

theorem keyLits_ints {P : Program} : ∀ (d : Nat) (t : TypeId) (cs : List Value), intT P d t = true → cs.length = P.cellsOf t → (∀ v ∈ cs, ∃ n, v = .int .i64 n ∧ inR n) → ∃ ls, P.keyLits d t cs = some ls
  | 0, _, _, h, _, _ => by simp [intT] at h
  | d + 1, t, cs, h, hl, hv => by
    unfold intT at h
    unfold Program.keyLits
    cases hu : P.underlying t with
    | none => simp [hu] at h
    | some k =>
      cases k <;> simp only [hu, Bool.false_eq_true] at h
      case int q =>
        simp only [Bool.and_eq_true, beq_iff_eq] at h
        obtain ⟨rfl, hc⟩ := h
        rw [hc] at hl
        match cs, hl with
        | [v], _ =>
          obtain ⟨n, rfl, hn⟩ := hv v (by simp)
          refine ⟨[.int .i64 n], ?_⟩
          have : (Lit.int .i64 n).wf = true := by
            unfold inR at hn
            simp only [Lit.wf, Bool.and_eq_true, decide_eq_true_eq]
            exact hn
          simp [this]
      case array n e =>
        simp only [Bool.and_eq_true, beq_iff_eq] at h
        obtain ⟨hc, he⟩ := h
        obtain ⟨ys, hys⟩ := mapM_some (f := fun i => P.keyLits d e ((cs.drop (i * P.cellsOf e)).take (P.cellsOf e))) (l := List.range n) fun i hi => by
          have hi := List.mem_range.1 hi
          refine keyLits_ints d e _ he ?_ fun v hv' => hv v (List.mem_of_mem_drop (List.mem_of_mem_take hv'))
          have h1 : i * P.cellsOf e + P.cellsOf e ≤ n * P.cellsOf e := by
            rw [← Nat.succ_mul]
            exact Nat.mul_le_mul_right _ hi
          rw [List.length_take, List.length_drop, hl, hc]
          omega
        refine ⟨ys.flatten, ?_⟩
        simp [hl, hys]
      case struct fs =>
        obtain ⟨ys, hys⟩ := mapM_some (f := fun f : Field => P.keyLits d f.type ((cs.drop f.offset).take (P.cellsOf f.type))) (l := fs.toList) fun f hf => by
          have h1 := List.all_eq_true.1 h f hf
          simp only [Bool.and_eq_true, decide_eq_true_eq] at h1
          obtain ⟨⟨_, h2⟩, h3⟩ := h1
          refine keyLits_ints d f.type _ h3 ?_ fun v hv' => hv v (List.mem_of_mem_drop (List.mem_of_mem_take hv'))
          rw [List.length_take, List.length_drop, hl]
          omega
        have hn : ∀ x ∈ fs, ¬ x.name = "_" := by
          intro x hx
          have h1 := List.all_eq_true.1 h x (by simpa using hx)
          simp only [Bool.and_eq_true, bne_iff_ne] at h1
          exact h1.1.1
        refine ⟨ys.flatten, ?_⟩
        simp [hl, hys]
        exact fun i hi => hn _ (Array.getElem_mem hi)

theorem mkey {P : Program} {t k : TypeId} {n : Nat} (h1 : P.underlying t = some (.map k 3)) (h2 : laidOutB P = true) (h3 : k < P.types.size) (h4 : P.keyTypeAt 5 k = true)
    (h5 : (match P.underlying k with | some (.array _ _) | some (.struct _) => true | _ => false) = true) (h6 : intT P (P.types.size + 1) k = true) (h7 : P.keyType k = true) (h8 : P.cellsOf k = n)
    (h9 : ∀ w, (zeroValue 3).run P w = .ok (.int .i64 0) w) : MKey P t n := by
  refine ⟨k, 3, h1, Maps.Keyed.of_law (deep_law_laid h2 (m := 5) (by omega) h3 h4 h5), fun xs hx hr => ?_, h9⟩
  have hf : (kval xs).formed P k = true := by
    unfold kval Value.formed
    split at h5
    · next h => simp only [h]; simp [hx, h8]
    · next h => simp only [h]; simp [hx, h8]
    · cases h5
  obtain ⟨ls, hls⟩ := keyLits_ints (P := P) (P.types.size + 1) k (kval xs).cells.toList h6 (by simp [kval, Value.cells, hx, h8]) (fun v hv => by
    simp only [kval, Value.cells, List.toList_toArray, List.mem_map] at hv
    obtain ⟨x, hx, rfl⟩ := hv
    exact ⟨x, rfl, hr x hx⟩)
  have h10 : (P.keyType k && (kval xs).formed P k) = true := by rw [h7, hf]; rfl
  unfold keyOf
  split at h5
  · next h => rw [h]; simp only; rw [if_pos h10, hls]; exact ⟨_, rfl⟩
  · next h => rw [h]; simp only; rw [if_pos h10, hls]; exact ⟨_, rfl⟩
  · cases h5

theorem zero_of {P : Program} {t : TypeId} {z : Value} (h : ((P.info? t).bind fun i => i.zero) = some z) (w : World) : (zeroValue t).run P w = .ok z w := by
  cases hi : P.info? t with
  | none => rw [hi] at h; cases h
  | some i =>
    rw [hi] at h
    have hz : i.zero = some z := h
    have h1 : (typeInfo t).run P w = .ok i w := run_typeInfo (w := w) hi
    simp [zeroValue, h1, hz]

theorem zero3 (w : World) : (zeroValue 3).run Try.prog w = .ok (.int .i64 0) w := zero_of (by kernel_rfl) w

theorem mk98 : MKey Try.prog 98 2 := mkey Try.underlying98 (by kernel_rfl) (of_decide_eq_true (by kernel_rfl)) (by kernel_rfl) (by kernel_rfl) (by kernel_rfl) (by kernel_rfl) (by kernel_rfl) zero3

abbrev hasB (t : List Pa) (q : Pa) : Bool := t.any fun p => decide (p.one = q.one ∧ p.other = q.other)
def musP (b : FB) (p : Pa) : Bool := (lrgL b).all fun t => hasB t p
def musK (b : FB) (k : Nat) : List Pa := ((fstM b).take k).filter (musP b)
def musL (b : FB) : List Pa := (fstM b).filter (musP b)
def musR (b : FB) : AV := .tup [PS (if chkB b then musL b else []), .int (errF b)]
theorem hasB_iff {t : List Pa} {q : Pa} : hasB t q = true ↔ q ∈ t := by
  unfold hasB
  rw [List.any_eq_true]
  constructor
  · rintro ⟨p, hp, h⟩
    have h := of_decide_eq_true h
    have : p = q := by cases p; cases q; simp at h; rw [h.1, h.2]
    rwa [← this]
  · intro h
    exact ⟨q, h, decide_eq_true ⟨rfl, rfl⟩⟩
def cnI (M : List (List Pa)) (x y : Int) : Nat := M.countP fun t => hasB t ⟨x, y⟩
theorem cnI_snoc {M : List (List Pa)} {i : Nat} (h : i < M.length) (x y : Int) : cnI (M.take (i + 1)) x y = cnI (M.take i) x y + (if hasB (M[i]?.getD default) ⟨x, y⟩ then 1 else 0) := by
  unfold cnI
  rw [List.take_add_one, List.getElem?_eq_getElem h, List.countP_append]
  congr 1
  show List.countP _ [M[i]] = _
  rw [List.countP_cons, List.countP_nil, Nat.zero_add]
  rfl
theorem cnI_le (M : List (List Pa)) (x y : Int) : cnI M x y ≤ M.length := List.countP_le_length
theorem musP_cn {b : FB} (p : Pa) : musP b p = decide (cnI (lrgL b) p.one p.other = (lrgL b).length) := by
  unfold musP cnI
  have e : ∀ M : List (List Pa), (M.all fun t => hasB t p) = decide ((M.countP fun t => hasB t p) = M.length) := fun M => by
    cases h : M.all fun t => hasB t p with
    | true =>
      symm
      apply decide_eq_true
      rw [List.countP_eq_length]
      exact List.all_eq_true.1 h
    | false =>
      symm
      apply decide_eq_false
      intro hc
      rw [List.countP_eq_length] at hc
      rw [List.all_eq_true.2 hc] at h
      cases h
  exact e _
theorem musK_succ {b : FB} {k : Nat} (h : k < (fstM b).length) : musK b (k + 1) = musK b k ++ (if musP b ((fstM b)[k]?.getD default) then [(fstM b)[k]?.getD default] else []) := by
  unfold musK
  rw [List.take_add_one, List.filter_append, List.getElem?_eq_getElem h]
  congr 1
  by_cases e : musP b (fstM b)[k] <;> simp [e]
theorem musK_len (b : FB) (k : Nat) : (musK b k).length ≤ (fstM b).length := by
  unfold musK
  refine Nat.le_trans (List.length_filter_le _ _) ?_
  rw [List.length_take]
  omega
theorem gm_new {b : FB} {n : Nat} {t : List Pa} (hg : GM b n t) {j : Nat} (hj : j < t.length) {p : Pa} (hp : t[j]?.getD default = p) : hasB (t.take j) p = false := by
  cases h : hasB (t.take j) p with
  | false => rfl
  | true =>
    exfalso
    obtain ⟨i, hi, e⟩ := List.mem_iff_getElem.1 (hasB_iff.1 h)
    have hij : i < j := by simp at hi; omega
    have := List.pairwise_iff_getElem.1 hg.o i j (by omega) hj hij
    rw [List.getElem_take] at e
    rw [List.getElem?_eq_getElem hj] at hp
    have hp2 : t[j] = p := hp
    rw [e, hp2] at this
    omega
theorem has_snoc {t : List Pa} {j : Nat} (hj : j < t.length) (q : Pa) : hasB (t.take (j + 1)) q = (hasB (t.take j) q || decide ((t[j]?.getD default).one = q.one ∧ (t[j]?.getD default).other = q.other)) := by
  unfold hasB
  rw [any_snoc hj]

set_option maxRecDepth 10000 in
theorem c43 (b : FB) (hs : SmF b) : Ctr Try.prog 43 [FK b] (musR b) := by
  refine ctr_of_wp hmix Try.func43 m43 rfl ?_
  unfold v43 musR
  have k1 := c48 b hs
  unfold errF at k1 ⊢
  cases hc : chkB b with
  | false =>
    rw [hc] at k1
    simp -failIfUnchanged (disch := first | omega | (simp <;> omega) | fail) only [go_sem, simprocAttr]
    refine wcall k1 ?_
    simp -failIfUnchanged (disch := first | omega | (simp <;> omega) | fail) only [go_sem, simprocAttr]
    try simp
  | true =>
    rw [hc] at k1
    have hv := vf_of hc
    have k2 := c64 b hv
    have hsm := lrg_small hv
    have hgm : ∀ x ∈ lrgL b, GM b b.ones.length x := fun x hx => (mem_lrg.1 hx).1
    have h0 : 0 < (lrgL b).length := List.length_pos_iff.2 (lrgL_ne b)
    have hf : (lrgL b)[0]?.getD default = fstM b := rfl
    have e0 := fst_at (b := b)
    have hfl := fst_len hv
    have hgf : GM b b.ones.length (fstM b) := hgm _ (fst_most b).1
    have hmP := fun p => musP_cn (b := b) p
    generalize lrgL b = M at k2 hsm hgm h0 hf e0 hmP
    have hat : ∀ i, i < M.length → (M.map PS)[i]?.getD .nul = PS (M[i]?.getD default) := fun i hi => by simp [hi]
    simp -failIfUnchanged (disch := first | omega | (simp <;> omega) | fail) only [go_sem, simprocAttr]
    refine wcall k1 ?_
    simp -failIfUnchanged (disch := first | omega | (simp <;> omega) | fail) only [go_sem, simprocAttr]
    refine wmmake mk98 fun l => ?_
    simp -failIfUnchanged (disch := first | omega | (simp <;> omega) | fail) only [go_sem, simprocAttr]
    refine wcall k2 ?_
    simp -failIfUnchanged (disch := first | omega | (simp <;> omega) | fail) only [go_sem, simprocAttr]
    refine wp_loop' (Nat × List (List Int × Int)) (fun st => ⟨[(5, .mpr l), (6, .sl 1 (M.map PS) .sh), (22, .sl 1 (M.map PS) .sh), (23, .int M.length), (24, .int st.1)], [], [], some (.mp l 2 st.2)⟩)
      (fun st => st.1 ≤ M.length ∧ ∀ x y, kvget st.2 [x, y] = (cnI (M.take st.1) x y : Nat)) (fun st => M.length - st.1) (0, []) ⟨by simp, fun x y => rfl⟩ (by simp -failIfUnchanged (disch := first | omega | (simp <;> omega) | fail) only [go_sem, simprocAttr]; try simp) ?_
    rintro ⟨i, kv⟩ ⟨hi, hkv⟩
    dsimp only at hi hkv
    simp -failIfUnchanged (disch := first | omega | (simp <;> omega) | fail) only [go_sem, simprocAttr]
    refine wcond_dec (fun h1 => ?_) (fun h1 => ?_)
    · have hil : i < M.length := by omega
      have e1 := hat i hil
      obtain ⟨t, ht⟩ : ∃ t, M[i]?.getD default = t := ⟨_, rfl⟩
      have hg := hgm t (by rw [← ht]; exact mem_getD hil)
      have htl := gm_len hg
      have hn1 := hv.n1
      have hn2 := hv.n2
      rw [ht] at e1
      simp -failIfUnchanged (disch := first | omega | (simp <;> omega) | fail) only [go_sem, simprocAttr, e1, ht]
      refine wp_loop' (Nat × List (List Int × Int)) (fun st => ⟨[(5, .mpr l), (6, .sl 1 (M.map PS) .sh), (22, .sl 1 (M.map PS) .sh), (23, .int M.length), (24, .int i), (28, PS t), (29, .int t.length), (30, .int st.1)], [], [], some (.mp l 2 st.2)⟩)
        (fun st => st.1 ≤ t.length ∧ ∀ x y, kvget st.2 [x, y] = ((cnI (M.take i) x y + (if hasB (t.take st.1) ⟨x, y⟩ then 1 else 0) : Nat) : Int)) (fun st => t.length - st.1) (0, kv) ⟨by simp, fun x y => by rw [hkv]; simp⟩ (by simp -failIfUnchanged (disch := first | omega | (simp <;> omega) | fail) only [go_sem, simprocAttr]; try simp) ?_
      rintro ⟨j, kw⟩ ⟨hj, hkw⟩
      dsimp only at hj hkw
      simp -failIfUnchanged (disch := first | omega | (simp <;> omega) | fail) only [go_sem, simprocAttr]
      refine wcond_dec (fun h2 => ?_) (fun h2 => ?_)
      · have hjl : j < t.length := by omega
        obtain ⟨p, q, e, hp, hq, _⟩ := gm_at hg hjl
        have hnew := gm_new hg hjl e
        have hk := hkw p q
        rw [hnew] at hk
        have hcl := cnI_le (M.take i) p q
        have hcl2 : cnI (M.take i) p q ≤ i := by rw [List.length_take] at hcl; omega
        simp only [Bool.false_eq_true, if_false, Nat.add_zero] at hk
        simp -failIfUnchanged (disch := first | omega | (simp <;> omega) | fail) only [go_sem, simprocAttr, e]
        refine wbump (xs := [(p : Int), (q : Int)]) mk98 rfl ?_ rfl (fun y hy => ?_) ?_
        · simp -failIfUnchanged (disch := first | omega | (simp <;> omega) | fail) only [go_sem, simprocAttr]
          try simp
        · simp at hy
          unfold inR
          rcases hy with rfl | rfl <;> omega
        · rw [hk]
          have hw : w64 (((cnI (M.take i) p q : Nat) : Int) + 1) = ((cnI (M.take i) p q + 1 : Nat) : Int) := by rw [w64_id (by omega)]; omega
          rw [hw]
          simp -failIfUnchanged (disch := first | omega | (simp <;> omega) | fail) only [go_sem, simprocAttr]
          refine ⟨(j + 1, kvset kw [(p : Int), (q : Int)] ((cnI (M.take i) p q + 1 : Nat) : Int)), ⟨by dsimp only; omega, fun x y => ?_⟩, by dsimp only; omega, ?_⟩
          · dsimp only
            rw [kvget_set, has_snoc hjl, e]
            dsimp only
            by_cases hxy : x = (p : Int) ∧ y = (q : Int)
            · obtain ⟨rfl, rfl⟩ := hxy
              rw [if_pos rfl]
              simp
            · have h1 : ¬ ([x, y] : List Int) = [(p : Int), (q : Int)] := by
                intro h
                simp at h
                exact hxy h
              have h2 : decide ((p : Int) = x ∧ (q : Int) = y) = false := decide_eq_false (fun h => hxy ⟨h.1.symm, h.2.symm⟩)
              rw [if_neg h1, h2, Bool.or_false, hkw]
          · simp -failIfUnchanged (disch := first | omega | (simp <;> omega) | fail) only [go_sem, simprocAttr]
            try simp
      · have ej : j = t.length := by omega
        subst ej
        simp -failIfUnchanged (disch := first | omega | (simp <;> omega) | fail) only [go_sem, simprocAttr]
        refine ⟨(i + 1, kw), ⟨by dsimp only; omega, fun x y => ?_⟩, by dsimp only; omega, ?_⟩
        · dsimp only
          rw [hkw, List.take_length, cnI_snoc hil, ht]
        · simp -failIfUnchanged (disch := first | omega | (simp <;> omega) | fail) only [go_sem, simprocAttr]
          try simp
    · have ei : i = M.length := by omega
      subst ei
      rw [List.take_length] at hkv
      have hgf2 := hgf
      unfold musL
      have hmk : ∀ k, k < (fstM b).length → musK b (k + 1) = musK b k ++ (if musP b ((fstM b)[k]?.getD default) then [(fstM b)[k]?.getD default] else []) := fun k hk => musK_succ hk
      have hml := musK_len b
      have hm0 : musK b 0 = [] := rfl
      have hmn : (fstM b).filter (musP b) = musK b (fstM b).length := by unfold musK; rw [List.take_length]
      rw [hmn]
      obtain ⟨F, hF⟩ : ∃ F, fstM b = F := ⟨_, rfl⟩
      rw [hF] at hf e0 hfl hgf hmk hml ⊢
      simp -failIfUnchanged (disch := first | omega | (simp <;> omega) | fail) only [go_sem, simprocAttr, e0, hf]
      refine wp_loop' Nat (fun k => ⟨[(5, .mpr l), (6, .sl 1 (M.map PS) .sh), (11, .sl 2 ((musK b k).map PA) (.own 11)), (44, PS F), (45, .int F.length), (46, .int k)],
        [], [(11, (musK b k).length)], some (.mp l 2 kv)⟩) (fun k => k ≤ F.length) (fun k => F.length - k) 0 (by simp) (by simp -failIfUnchanged (disch := first | omega | (simp <;> omega) | fail) only [go_sem, simprocAttr]; simp [hm0]) ?_
      intro k hk
      have hk : k ≤ F.length := hk
      have hkl := hml k
      simp -failIfUnchanged (disch := first | omega | (simp <;> omega) | fail) only [go_sem, simprocAttr]
      refine wcond_dec (fun h2 => ?_) (fun h2 => ?_)
      · have hkL : k < F.length := by omega
        obtain ⟨p, q, e, hp, hq, _⟩ := gm_at hgf hkL
        have hks := hmk k hkL
        have hn1 := hv.n1
        have hn2 := hv.n2
        have hkg := hkv p q
        have hmp := hmP ⟨(p : Int), (q : Int)⟩
        rw [e] at hks
        have hdz : decide (((cnI M p q : Nat) : Int) = (M.length : Int)) = musP b ⟨(p : Int), (q : Int)⟩ := by
          rw [hmp]
          apply decide_eq_decide.2
          dsimp only
          omega
        simp -failIfUnchanged (disch := first | omega | (simp <;> omega) | fail) only [go_sem, simprocAttr, e]
        refine wmlook (xs := [(p : Int), (q : Int)]) mk98 rfl (fun y hy => ?_) ?_
        · simp at hy
          unfold inR
          rcases hy with rfl | rfl <;> omega
        rw [hkg]
        simp -failIfUnchanged (disch := first | omega | (simp <;> omega) | fail) only [go_sem, simprocAttr, hdz]
        cases ha : musP b ⟨(p : Int), (q : Int)⟩ with
        | true =>
          rw [ha] at hks
          simp -failIfUnchanged (disch := first | omega | (simp <;> omega) | fail) only [go_sem, simprocAttr]
          refine ⟨k + 1, by dsimp only; omega, by dsimp only; omega, ?_⟩
          dsimp only
          rw [hks]
          simp -failIfUnchanged (disch := first | omega | (simp <;> omega) | fail) only [go_sem, simprocAttr]
          try simp
        | false =>
          rw [ha] at hks
          simp -failIfUnchanged (disch := first | omega | (simp <;> omega) | fail) only [go_sem, simprocAttr]
          refine ⟨k + 1, by dsimp only; omega, by dsimp only; omega, ?_⟩
          dsimp only
          rw [hks]
          simp -failIfUnchanged (disch := first | omega | (simp <;> omega) | fail) only [go_sem, simprocAttr]
          try simp
      · have ek : k = F.length := by omega
        subst ek
        simp -failIfUnchanged (disch := first | omega | (simp <;> omega) | fail) only [go_sem, simprocAttr]
        try simp

end Go.Proofs.Ytemnojaoickjfaa

/- The document's Must and Alone; Twice; FinesMust. -/
set_option linter.unusedSimpArgs false
set_option linter.unusedVariables false
set_option linter.unnecessarySimpa false
namespace Go.Proofs.Ytemnojaoickjfaa
open Go Go.V

theorem in_01 {n : Int} (h : within n 0 1 = true) : n = 0 ∨ n = 1 := by
  simp only [within, decide_eq_true_eq] at h
  omega
theorem ent_bok {b : FB} {n : Int} (h : within n 0 1 = true) : (if n = 1 then b.others else b.ones) = bokL b n := by
  unfold bokL
  rcases in_01 h with rfl | rfl <;> rfl

end Go.Proofs.Ytemnojaoickjfaa

/- Twice; FinesMust. -/
set_option linter.unusedSimpArgs false
set_option linter.unusedVariables false
set_option linter.unnecessarySimpa false
namespace Go.Proofs.Ytemnojaoickjfaa
open Go Go.V

/-- The pairs of a book's entries that could be one: row by row. -/
def twP (late : Int) (l : List En) (i k : Nat) : Bool := decide (i < k) && comB late (l[i]?.getD default) (l[k]?.getD default)
def twR (late : Int) (l : List En) (i m : Nat) : List Pa := ((List.range m).filter (twP late l i)).map fun k : Nat => (⟨(i : Int), (k : Int)⟩ : Pa)
def twK (late : Int) (l : List En) : Nat → List Pa
  | 0 => []
  | i + 1 => twK late l i ++ twR late l i l.length
def twcR (b : FB) (n : Int) : AV := .tup [PS (if bkE b n = 0 then twK b.late (bokL b n) (bokL b n).length else []), .int (bkE b n)]
theorem twR_succ (late : Int) (l : List En) (i m : Nat) : twR late l i (m + 1) = twR late l i m ++ (if twP late l i m then [⟨(i : Int), (m : Int)⟩] else []) := by
  unfold twR
  rw [List.range_succ, List.filter_append, List.map_append]
  congr 1
  by_cases h : twP late l i m <;> simp [h]
theorem twR_0 (late : Int) (l : List En) (i : Nat) : twR late l i (i + 1) = [] := by
  unfold twR
  have : (List.range (i + 1)).filter (twP late l i) = [] := by
    rw [List.filter_eq_nil_iff]
    intro k hk
    have := List.mem_range.1 hk
    have : decide (i < k) = false := decide_eq_false (by omega)
    simp [twP, this]
  rw [this]
  rfl
theorem twR_len (late : Int) (l : List En) (i m : Nat) : (twR late l i m).length ≤ m := by
  unfold twR
  rw [List.length_map]
  exact Nat.le_trans (List.length_filter_le _ _) (by simp)
theorem twK_len (late : Int) (l : List En) : ∀ i, (twK late l i).length ≤ i * l.length
  | 0 => by simp [twK]
  | i + 1 => by
    unfold twK
    rw [List.length_append, Nat.succ_mul]
    have := twK_len late l i
    have := twR_len late l i l.length
    omega
theorem bok_v {b : FB} (hv : VF b) {n : Int} {i : Nat} (h : i < (bokL b n).length) : VE b ((bokL b n)[i]?.getD default) := by
  have := mem_getD h
  unfold bokL at this ⊢
  by_cases e : n = 0
  · rw [if_pos e] at this ⊢; exact hv.e1 _ this
  · rw [if_neg e] at this ⊢; exact hv.e2 _ this
theorem bok_5 {b : FB} (hv : VF b) (n : Int) : (bokL b n).length ≤ 5 := by
  have := hv.n1
  have := hv.n2
  unfold bokL
  split <;> omega

set_option maxRecDepth 10000 in
theorem c60 (b : FB) (hs : SmF b) (n : Int) : Ctr Try.prog 60 [FK b, .int n] (twcR b n) := by
  refine ctr_of_wp hmix Try.func60 m60 rfl ?_
  unfold v60 twcR
  have a1 := c71 n 0 1
  have a2 := c70 b hs (within n 0 1)
  obtain ⟨e, hE⟩ : ∃ e, bkE b n = e := ⟨_, rfl⟩
  have hE' : askF b (within n 0 1) = e := hE
  rw [hE'] at a2
  rw [hE]
  simp -failIfUnchanged (disch := first | omega | (simp <;> omega) | fail) only [go_sem, simprocAttr]
  refine wcall a1 ?_
  simp -failIfUnchanged (disch := first | omega | (simp <;> omega) | fail) only [go_sem, simprocAttr]
  refine wcall a2 ?_
  by_cases h0 : e = 0
  · subst h0
    obtain ⟨hc, hw⟩ := pr_0 hE'
    have hv := vf_of hc
    have k3 := c73 b n
    have hl5 := bok_5 hv n
    have hve : ∀ i, i < (bokL b n).length → VE b ((bokL b n)[i]?.getD default) := fun i hi => bok_v hv hi
    generalize bokL b n = l at k3 hl5 hve ⊢
    have hpl := hv.pl
    simp -failIfUnchanged (disch := first | omega | (simp <;> omega) | fail) only [go_sem, simprocAttr]
    refine wcall k3 ?_
    simp -failIfUnchanged (disch := first | omega | (simp <;> omega) | fail) only [go_sem, simprocAttr]
    refine wp_loop' Nat (fun i => ⟨[(2, .ptr 2 0), (7, ES l), (9, .sl 2 ((twK b.late l i).map PA) (.own 9)), (28, ES l), (29, .int l.length), (30, .int i)], [(2, ⟨FKc b, false⟩)], [(9, (twK b.late l i).length)], none⟩) (fun i => i ≤ l.length) (fun i => l.length - i) 0 (by simp) (by simp -failIfUnchanged (disch := first | omega | (simp <;> omega) | fail) only [go_sem, simprocAttr]; simp [twK]) ?_
    intro i hi
    have hi : i ≤ l.length := hi
    have hkl := twK_len b.late l i
    have hkl2 : i * l.length ≤ 25 := by have := Nat.mul_le_mul (show i ≤ 5 by omega) hl5; omega
    simp -failIfUnchanged (disch := first | omega | (simp <;> omega) | fail) only [go_sem, simprocAttr]
    refine wcond_dec (fun h1 => ?_) (fun h1 => ?_)
    · have hil : i < l.length := by omega
      obtain ⟨x, hx⟩ : ∃ x, l[i]?.getD default = x := ⟨_, rfl⟩
      have hvx := hve i hil
      rw [hx] at hvx
      have hks : twK b.late l (i + 1) = twK b.late l i ++ twR b.late l i l.length := rfl
      simp -failIfUnchanged (disch := first | omega | (simp <;> omega) | fail) only [go_sem, simprocAttr, hx]
      refine wp_loop' Nat (fun k => ⟨[(2, .ptr 2 0), (7, ES l), (9, .sl 2 ((twK b.late l i ++ twR b.late l i k).map PA) (.own 9)), (10, .int i), (11, .ptr 11 0), (12, .int k), (28, ES l), (29, .int l.length), (30, .int i)],
        [(11, ⟨[.int x.day, .int x.who, SS x.cord], false⟩), (2, ⟨FKc b, false⟩)], [(9, (twK b.late l i ++ twR b.late l i k).length)], none⟩) (fun k => i < k ∧ k ≤ l.length) (fun k => l.length - k) (i + 1) ⟨by omega, by omega⟩ (by rw [twR_0]; simp -failIfUnchanged (disch := first | omega | (simp <;> omega) | fail) only [go_sem, simprocAttr]; simp) ?_
      rintro k ⟨hik, hk⟩
      have hrl := twR_len b.late l i k
      have hal : (twK b.late l i ++ twR b.late l i k).length ≤ 100 := by rw [List.length_append]; omega
      have hrs3 : twK b.late l i ++ twR b.late l i (k + 1) = (twK b.late l i ++ twR b.late l i k) ++ (if twP b.late l i k then [⟨(i : Int), (k : Int)⟩] else []) := by rw [twR_succ, List.append_assoc]
      have hks2 : k = l.length → twK b.late l (i + 1) = twK b.late l i ++ twR b.late l i k := fun e => by subst e; rfl
      generalize twK b.late l i ++ twR b.late l i k = A at hal hrs3 hks2 ⊢
      simp -failIfUnchanged (disch := first | omega | (simp <;> omega) | fail) only [go_sem, simprocAttr]
      refine wcond_dec (fun h2 => ?_) (fun h2 => ?_)
      · have hkl : k < l.length := by omega
        obtain ⟨y, hy⟩ : ∃ y, l[k]?.getD default = y := ⟨_, rfl⟩
        have hvy := hve k hkl
        rw [hy] at hvy
        have hn2 := hvy.c.n
        have k79 := c79 b.late x y (by rw [both_len hvx.c hvy.c]; exact Nat.le_refl _) (by omega)
        have htp : twP b.late l i k = comB b.late x y := by
          unfold twP
          rw [hx, hy, decide_eq_true hik, Bool.true_and]
        have hrs2 := hrs3
        rw [htp] at hrs2
        simp -failIfUnchanged (disch := first | omega | (simp <;> omega) | fail) only [go_sem, simprocAttr, hy]
        refine wcall k79 ?_
        simp -failIfUnchanged (disch := first | omega | (simp <;> omega) | fail) only [go_sem, simprocAttr]
        cases hcm : comB b.late x y with
        | true =>
          rw [hcm] at hrs2
          simp -failIfUnchanged (disch := first | omega | (simp <;> omega) | fail) only [go_sem, simprocAttr]
          refine ⟨k + 1, ⟨by omega, by omega⟩, by dsimp only; omega, ?_⟩
          dsimp only
          have hln := congrArg List.length hrs2
          simp only [List.length_append, if_true, Bool.false_eq_true, if_false, List.length_cons, List.length_nil] at hln
          rw [hrs2]
          simp -failIfUnchanged (disch := first | omega | (simp <;> omega) | fail) only [go_sem, simprocAttr]
          try simp
          try omega
        | false =>
          rw [hcm] at hrs2
          simp -failIfUnchanged (disch := first | omega | (simp <;> omega) | fail) only [go_sem, simprocAttr]
          refine ⟨k + 1, ⟨by omega, by omega⟩, by dsimp only; omega, ?_⟩
          dsimp only
          have hln := congrArg List.length hrs2
          simp only [List.length_append, if_true, Bool.false_eq_true, if_false, List.length_cons, List.length_nil] at hln
          rw [hrs2]
          simp -failIfUnchanged (disch := first | omega | (simp <;> omega) | fail) only [go_sem, simprocAttr]
          try simp
          try omega
      · have ek : k = l.length := by omega
        simp -failIfUnchanged (disch := first | omega | (simp <;> omega) | fail) only [go_sem, simprocAttr]
        refine ⟨i + 1, by dsimp only; omega, by dsimp only; omega, ?_⟩
        dsimp only
        rw [hks2 ek]
        simp -failIfUnchanged (disch := first | omega | (simp <;> omega) | fail) only [go_sem, simprocAttr]
        try simp
    · have ei : i = l.length := by omega
      subst ei
      simp -failIfUnchanged (disch := first | omega | (simp <;> omega) | fail) only [go_sem, simprocAttr]
      try simp
  · have hd : decide (¬ e = 0) = true := decide_eq_true h0
    simp -failIfUnchanged (disch := first | omega | (simp <;> omega) | fail) only [go_sem, simprocAttr, hd]
    simp [h0]

theorem mus_5 {b : FB} (hv : VF b) : (musL b).length ≤ 5 := Nat.le_trans (List.length_filter_le _ _) (fst_len hv)
theorem aln_5 {b : FB} (hv : VF b) (n : Int) : (alnL b n).length ≤ 5 := Nat.le_trans (alnK_len b n _) (bok_5 hv n)
end Go.Proofs.Ytemnojaoickjfaa

/- Matchings: how great they can be; in whatever order. -/
set_option linter.unusedSimpArgs false
set_option linter.unusedVariables false
set_option linter.unnecessarySimpa false
namespace Go.Proofs.Ytemnojaoickjfaa
open Go Go.V

theorem fst_gm (b : FB) : GM b b.ones.length (fstM b) := (mem_lrg.1 (fst_most b).1).1
theorem most_le {b : FB} {t : List Pa} (h : GM b b.ones.length t) : t.length ≤ (fstM b).length := (mem_lrg.1 (fst_most b).1).2 t h
theorem lrg_iff {b : FB} {t : List Pa} : t ∈ lrgL b ↔ GM b b.ones.length t ∧ t.length = (fstM b).length := by
  rw [mem_lrg]
  constructor
  · rintro ⟨h1, h2⟩
    exact ⟨h1, Nat.le_antisymm (most_le h1) (h2 _ (fst_gm b))⟩
  · rintro ⟨h1, h2⟩
    exact ⟨h1, fun x hx => by rw [h2]; exact most_le hx⟩

/-! Different numbers below n are at most n. -/
theorem filter_ne_len (a : Int) : ∀ (l : List Int), l.Pairwise (fun x y => x ≠ y) → l.length ≤ (l.filter fun x => decide (x ≠ a)).length + 1
  | [], _ => by simp
  | x :: r, h => by
    have h1 := List.pairwise_cons.1 h
    by_cases e : x = a
    · subst e
      have : (r.filter fun y => decide (y ≠ x)) = r := List.filter_eq_self.2 fun y hy => decide_eq_true (fun e => h1.1 y hy e.symm)
      rw [List.filter_cons, this]
      simp
    · have ih := filter_ne_len a r h1.2
      rw [List.filter_cons, if_pos (decide_eq_true e)]
      simp only [List.length_cons]
      omega
theorem nodup_len : ∀ (n : Nat) (l : List Int), l.Pairwise (fun x y => x ≠ y) → (∀ x ∈ l, 0 ≤ x ∧ x < (n : Int)) → l.length ≤ n
  | 0, l, _, h => by
    cases l with
    | nil => simp
    | cons x r => have := h x (by simp); omega
  | n + 1, l, hd, h => by
    have h1 := filter_ne_len n l hd
    have h2 := nodup_len n (l.filter fun x => decide (x ≠ (n : Int))) (hd.filter _) fun x hx => by
      have hx := List.mem_filter.1 hx
      have h3 := h x hx.1
      have h4 := of_decide_eq_true hx.2
      omega
    omega

/-- A matching in whatever order. -/
structure UM (b : FB) (t : List Pa) : Prop where
  p : ∀ p ∈ t, (0 ≤ p.one ∧ p.one < (b.ones.length : Int)) ∧ (0 ≤ p.other ∧ p.other < (b.others.length : Int)) ∧ comB b.late (one b p.one.toNat) (oth b p.other.toNat) = true
  o : t.Pairwise fun p q => p.one ≠ q.one
  d : t.Pairwise fun p q => p.other ≠ q.other
theorem gm_um {b : FB} {t : List Pa} (h : GM b b.ones.length t) : UM b t := ⟨h.p, h.o.imp fun h => by omega, h.d⟩
theorem um_perm {b : FB} {t s : List Pa} (h : UM b t) (hp : t.Perm s) : UM b s :=
  ⟨fun p hm => h.p p (hp.mem_iff.2 hm), (hp.pairwise_iff (fun h e => h e.symm)).1 h.o, (hp.pairwise_iff (fun h e => h e.symm)).1 h.d⟩
def srtM (t : List Pa) : List Pa := t.mergeSort fun p q => decide (p.one ≤ q.one)
theorem srt_perm (t : List Pa) : (srtM t).Perm t := List.mergeSort_perm _ _
theorem um_gm {b : FB} {t : List Pa} (h : UM b t) : GM b b.ones.length (srtM t) := by
  have hu := um_perm h (srt_perm t).symm
  have hs : (srtM t).Pairwise fun p q => decide (p.one ≤ q.one) = true :=
    List.pairwise_mergeSort (fun a c d h1 h2 => decide_eq_true (by have := of_decide_eq_true h1; have := of_decide_eq_true h2; omega)) (fun a c => by
      rw [Bool.or_eq_true, decide_eq_true_eq, decide_eq_true_eq]; omega) t
  exact ⟨hu.p, (hs.and hu.o).imp fun {p q} h => by have h1 := of_decide_eq_true h.1; have h2 := h.2; omega, hu.d⟩
theorem um_le {b : FB} {t : List Pa} (h : UM b t) : t.length ≤ (fstM b).length := by
  have := most_le (um_gm h)
  rwa [(srt_perm t).length_eq] at this
theorem um_others {b : FB} {t : List Pa} (h : UM b t) : t.length ≤ b.others.length := by
  have := nodup_len b.others.length (t.map fun p => p.other) (h.d.map _ fun _ _ h => h) fun x hx => by
    obtain ⟨p, hp, rfl⟩ := List.mem_map.1 hx
    exact (h.p p hp).2.1
  simpa using this
theorem fst_others (b : FB) : (fstM b).length ≤ b.others.length := um_others (gm_um (fst_gm b))
theorem fst_ones (b : FB) : (fstM b).length ≤ b.ones.length := gm_len (fst_gm b)

/-- Fewest as the laws ask for it. -/
theorem c23 (b : FB) (hs : SmF b) (hc : chkB b = true) : Ctr Try.prog 23 [FK b] (.tup [.int (fewI b), .bool true]) := by
  refine ctr_of_wp hmix Try.func23 m23 rfl ?_
  unfold v23
  have k := c28 b hs
  have he : errF b = 0 := by unfold errF; rw [hc]; rfl
  unfold fewR at k
  rw [he, if_pos hc] at k
  have h1 := fst_others b
  have h2 := fst_ones b
  have hv := vf_of hc
  have hn1 := hv.n1
  have hn2 := hv.n2
  have hf : fewI b = (b.ones.length : Int) + b.others.length - (fstM b).length := rfl
  generalize fewI b = F at *
  have e1 : decide (max (b.ones.length : Int) b.others.length ≤ F) = true := decide_eq_true (by omega)
  have e2 : decide (F ≤ (b.ones.length : Int) + b.others.length) = true := decide_eq_true (by omega)
  simp -failIfUnchanged (disch := first | omega | (simp <;> omega) | fail) only [go_sem, simprocAttr]
  refine wcall k ?_
  simp -failIfUnchanged (disch := first | omega | (simp <;> omega) | fail) only [go_sem, simprocAttr, eq_self, e1, e2]

theorem rdy_of {b : FB} (h : rdyF b = true) : SmF b ∧ chkB b = true ∧ VF b := by
  unfold rdyF at h
  rw [Bool.and_eq_true, Bool.not_eq_true'] at h
  exact ⟨smf_of h.1, h.2, vf_of h.2⟩

/-! What the answers say of each largest matching. -/
theorem aln_not {b : FB} {n : Int} {t : List Pa} (ht : t ∈ lrgL b) {i : Int} (hi : i ∈ alnL b n) : inB n t i = false := by
  unfold alnL alnK at hi
  obtain ⟨k, hk, rfl⟩ := List.mem_map.1 hi
  have := (List.mem_filter.1 hk).2
  unfold alnP at this
  rw [Bool.not_eq_true', List.any_eq_false] at this
  exact Bool.eq_false_iff.2 (this t ht)
end Go.Proofs.Ytemnojaoickjfaa

/- FinesLater. -/
set_option linter.unusedSimpArgs false
set_option linter.unusedVariables false
set_option linter.unnecessarySimpa false
namespace Go.Proofs.Ytemnojaoickjfaa
open Go Go.V

theorem com_late {b : FB} {l : Int} (hl : b.late ≤ l) {x y : En} (h : comB b.late x y = true) : comB (lat b l).late x y = true := by
  unfold comB at h ⊢
  simp only [Bool.and_eq_true, decide_eq_true_eq] at h ⊢
  exact ⟨h.1, Int.le_trans h.2.1 hl, h.2.2⟩
theorem gm_late {b : FB} {l : Int} (hl : b.late ≤ l) {t : List Pa} (h : GM b b.ones.length t) : GM (lat b l) (lat b l).ones.length t :=
  ⟨fun p hp => ⟨(h.p p hp).1, (h.p p hp).2.1, com_late hl (h.p p hp).2.2⟩, h.o, h.d⟩
theorem few_late {b : FB} {l : Int} (hl : b.late ≤ l) : fewI (lat b l) ≤ fewI b := by
  have := most_le (gm_late hl (fst_gm b))
  unfold fewI
  show (b.ones.length : Int) + b.others.length - _ ≤ _
  omega
theorem few_lat2 {b : FB} {l m : Int} (hl : l ≤ m) : fewI (lat b m) ≤ fewI (lat b l) := few_late (b := lat b l) hl
theorem fstN_spec (p : Nat → Bool) (n : Nat) : ∃ k, fstN p n = k ∧ k ≤ n ∧ (∀ i, i < k → p i = false) ∧ (k = n ∨ p k = true) := by
  have key : ∀ m, (∃ k, k ≤ m ∧ (∀ i, i < k → p i = false) ∧ (k = m ∨ p k = true)) := by
    intro m
    induction m with
    | zero => exact ⟨0, Nat.le_refl _, fun i hi => by omega, .inl rfl⟩
    | succ m ih =>
      obtain ⟨k, h1, h2, h3⟩ := ih
      by_cases hk : p k = true
      · exact ⟨k, by omega, h2, .inr hk⟩
      · have e : k = m := h3.resolve_right hk
        subst e
        exact ⟨k + 1, Nat.le_refl _, fun i hi => by
          by_cases e : i = k
          · subst e; simpa using hk
          · exact h2 i (by omega), .inl rfl⟩
  obtain ⟨k, h1, h2, h3⟩ := key n
  exact ⟨k, fstN_eq h1 h2 h3, h1, h2, h3⟩
theorem lt_spec (b : FB) : ltN b ≤ 30 ∧ fewI (lat b (ltN b : Nat)) = fewI (lat b 30) ∧ ∀ i : Nat, i < ltN b → fewI (lat b 30) < fewI (lat b i) := by
  obtain ⟨k, h1, h2, h3, h4⟩ := fstN_spec (ltP b) 30
  have h1' : ltN b = k := h1
  rw [h1']
  refine ⟨h2, ?_, fun i hi => ?_⟩
  · apply Int.le_antisymm
    · rcases h4 with rfl | h4
      · exact Int.le_refl _
      · exact of_decide_eq_true h4
    · exact few_lat2 (by omega)
  · have := of_decide_eq_false (h3 i hi)
    omega
theorem chk_lat {b : FB} (hc : chkB b = true) {l : Int} (h : 0 ≤ l ∧ l ≤ 30) : chkB (lat b l) = true := by
  unfold chkB at hc ⊢
  simp only [Bool.and_eq_true] at hc ⊢
  exact ⟨hc.1, hc.2.1, by unfold within; exact decide_eq_true h, hc.2.2.2⟩

set_option maxRecDepth 10000 in
theorem c7 (b : FB) (l : Int) (p : Pa) : Ctr Try.prog 7 [FK b, .int l, PA p] (.bool true) := by
  refine ctr_of_wp hmix Try.func7 m7 rfl ?_
  unfold v7
  simp -failIfUnchanged (disch := first | omega | (simp <;> omega) | fail) only [go_sem, simprocAttr]
  refine wcall (c22 b) ?_
  cases hr : rdyF b with
  | false =>
    simp -failIfUnchanged (disch := first | omega | (simp <;> omega) | fail) only [go_sem, simprocAttr]
    refine wcall c15 ?_
    simp -failIfUnchanged (disch := first | omega | (simp <;> omega) | fail) only [go_sem, simprocAttr]
  | true =>
    obtain ⟨hs, hc, hv⟩ := rdy_of hr
    simp -failIfUnchanged (disch := first | omega | (simp <;> omega) | fail) only [go_sem, simprocAttr]
    refine wcall (c33 l b.late 30) ?_
    cases hw : within l b.late 30 with
    | false =>
      simp -failIfUnchanged (disch := first | omega | (simp <;> omega) | fail) only [go_sem, simprocAttr]
      refine wcall c15 ?_
      simp -failIfUnchanged (disch := first | omega | (simp <;> omega) | fail) only [go_sem, simprocAttr]
    | true =>
      have hw' : b.late ≤ l ∧ l ≤ 30 := by simpa [within] using hw
      have hla := hv.la
      obtain ⟨g1, g2, g3⟩ := lt_spec b
      have k23 := c23 b hs hc
      have k24 := c23 (lat b l) (sm_lat hs l) (chk_lat hc (by omega))
      have k25 := c23 (lat b 30) (sm_lat hs 30) (chk_lat hc (by omega))
      have k26 := c23 (lat b (ltN b : Nat)) (sm_lat hs _) (chk_lat hc (by omega))
      have k19 := c19 b hs
      have he : errF b = 0 := by unfold errF; rw [hc]; rfl
      unfold ltR at k19
      rw [he, if_pos hc] at k19
      have k34 := c34 b hs l
      have k35 := c34 b hs 30
      have k36 := c34 b hs (ltN b : Nat)
      have hle := few_late hw'.1
      have a1 := c37 b hs p.one p.other
      have a2 := c37 (lat b l) (sm_lat hs l) p.one p.other
      have a3 := c35 b p.one
      have a4 := c36 b p.other
      unfold samR at a1 a2
      have hpe : prE (lat b l) p.one p.other = askF (lat b l) (oneI b p.one && othI b p.other) := rfl
      have hpe1 : prE b p.one p.other = askF b (oneI b p.one && othI b p.other) := rfl
      have hk3 : Ctr Try.prog 33 [.int (ltN b : Nat), .int 0, .int 30] (.bool true) := by
        have := c33 (ltN b : Nat) 0 30
        rwa [show within (ltN b : Nat) 0 30 = true by unfold within; exact decide_eq_true (by omega)] at this
      have hbef : ∀ q : Nat, ltN b = q + 1 → Ctr Try.prog 34 [FK b, .int (q : Nat)] (FK (lat b (q : Nat))) ∧ Ctr Try.prog 23 [FK (lat b (q : Nat))] (.tup [.int (fewI (lat b (q : Nat))), .bool true]) ∧ fewI (lat b 30) < fewI (lat b (q : Nat)) := fun q hq =>
        ⟨c34 b hs q, c23 (lat b (q : Nat)) (sm_lat hs _) (chk_lat hc (by omega)), g3 q (by omega)⟩
      rw [g2] at k26
      generalize ltN b = K at *
      have d0 : decide (¬ (0 : Int) = 0) = false := rfl
      have d1 : decide (fewI b < fewI (lat b l)) = false := decide_eq_false (by omega)
      have d2 : decide (¬ fewI (lat b 30) = fewI (lat b 30)) = false := decide_eq_false (by simp)
      have hone : oneI b p.one = within p.one 0 (w64 ((b.ones.length : Int) - 1)) := rfl
      have hoth : othI b p.other = within p.other 0 (w64 ((b.others.length : Int) - 1)) := rfl
      obtain ⟨u, hu⟩ : ∃ u, within p.one 0 (w64 ((b.ones.length : Int) - 1)) = u := ⟨_, rfl⟩
      obtain ⟨v, hvv⟩ : ∃ v, within p.other 0 (w64 ((b.others.length : Int) - 1)) = v := ⟨_, rfl⟩
      rw [hone, hoth, hu, hvv] at hpe hpe1
      rw [hu] at a3
      rw [hvv] at a4
      unfold FK at a2 k24 k25 k26 k34 k35 k36
      simp -failIfUnchanged (disch := first | omega | (simp <;> omega) | fail) only [go_sem, simprocAttr]
      refine wcall k34 ?_
      simp -failIfUnchanged (disch := first | omega | (simp <;> omega) | fail) only [go_sem, simprocAttr]
      refine wcall k23 ?_
      simp -failIfUnchanged (disch := first | omega | (simp <;> omega) | fail) only [go_sem, simprocAttr]
      refine wcall k24 ?_
      simp -failIfUnchanged (disch := first | omega | (simp <;> omega) | fail) only [go_sem, simprocAttr]
      refine wcall k19 ?_
      simp -failIfUnchanged (disch := first | omega | (simp <;> omega) | fail) only [go_sem, simprocAttr, d0, d1]
      refine wcall hk3 ?_
      simp -failIfUnchanged (disch := first | omega | (simp <;> omega) | fail) only [go_sem, simprocAttr]
      refine wcall k35 ?_
      simp -failIfUnchanged (disch := first | omega | (simp <;> omega) | fail) only [go_sem, simprocAttr]
      refine wcall k25 ?_
      simp -failIfUnchanged (disch := first | omega | (simp <;> omega) | fail) only [go_sem, simprocAttr]
      refine wcall k36 ?_
      simp -failIfUnchanged (disch := first | omega | (simp <;> omega) | fail) only [go_sem, simprocAttr]
      refine wcall k26 ?_
      simp -failIfUnchanged (disch := first | omega | (simp <;> omega) | fail) only [go_sem, simprocAttr, d2]
      refine tailed (T := ?T) (fun tail => ?mm) ?tt
      case mm =>
        refine wcond_dec (fun h0 => ?_) (fun h0 => ?_)
        · obtain ⟨q, rfl⟩ : ∃ q, K = q + 1 := ⟨K - 1, by omega⟩
          obtain ⟨b1, b2, b3⟩ := hbef q rfl
          have e1 : (((q + 1 : Nat) : Int) - 1) = (q : Nat) := by omega
          have d3 : decide (fewI (lat b (q : Nat)) ≤ fewI (lat b 30)) = false := decide_eq_false (by omega)
          unfold FK at b1 b2
          simp -failIfUnchanged (disch := first | omega | (simp <;> omega) | fail) only [go_sem, simprocAttr, e1]
          refine wcall b1 ?_
          simp -failIfUnchanged (disch := first | omega | (simp <;> omega) | fail) only [go_sem, simprocAttr]
          refine wcall b2 ?_
          simp -failIfUnchanged (disch := first | omega | (simp <;> omega) | fail) only [go_sem, simprocAttr, d3]
          exact tail.out
        · simp -failIfUnchanged (disch := first | omega | (simp <;> omega) | fail) only [go_sem, simprocAttr]
          exact tail.out
      case tt =>
        refine wcall a3 ?_
        cases u with
        | false =>
          simp -failIfUnchanged (disch := first | omega | (simp <;> omega) | fail) only [go_sem, simprocAttr]
          refine wcall c15 ?_
          simp -failIfUnchanged (disch := first | omega | (simp <;> omega) | fail) only [go_sem, simprocAttr]
        | true =>
          simp -failIfUnchanged (disch := first | omega | (simp <;> omega) | fail) only [go_sem, simprocAttr]
          refine wcall a4 ?_
          cases v with
          | false =>
            simp -failIfUnchanged (disch := first | omega | (simp <;> omega) | fail) only [go_sem, simprocAttr]
            refine wcall c15 ?_
            simp -failIfUnchanged (disch := first | omega | (simp <;> omega) | fail) only [go_sem, simprocAttr]
          | true =>
            have e1 : prE b p.one p.other = 0 := by rw [hpe1]; exact ask_ok hc rfl
            have e2 : prE (lat b l) p.one p.other = 0 := by rw [hpe]; exact ask_ok (chk_lat hc (by omega)) rfl
            rw [e1, if_pos rfl] at a1
            rw [e2, if_pos rfl] at a2
            have h1 : comB b.late (one b p.one.toNat) (oth b p.other.toNat) = true → comB (lat b l).late (one (lat b l) p.one.toNat) (oth (lat b l) p.other.toNat) = true := com_late hw'.1
            generalize comB b.late (one b p.one.toNat) (oth b p.other.toNat) = X at *
            generalize comB (lat b l).late (one (lat b l) p.one.toNat) (oth (lat b l) p.other.toNat) = Y at *
            simp -failIfUnchanged (disch := first | omega | (simp <;> omega) | fail) only [go_sem, simprocAttr]
            refine wcall a1 ?_
            simp -failIfUnchanged (disch := first | omega | (simp <;> omega) | fail) only [go_sem, simprocAttr]
            refine wcall a2 ?_
            simp -failIfUnchanged (disch := first | omega | (simp <;> omega) | fail) only [go_sem, simprocAttr, eq_self]
            cases X with
            | false =>
              simp -failIfUnchanged (disch := first | omega | (simp <;> omega) | fail) only [go_sem, simprocAttr]
              refine wcall c15 ?_
              simp -failIfUnchanged (disch := first | omega | (simp <;> omega) | fail) only [go_sem, simprocAttr]
            | true =>
              rw [h1 rfl]
              simp -failIfUnchanged (disch := first | omega | (simp <;> omega) | fail) only [go_sem, simprocAttr]
              refine wcall c15 ?_
              simp -failIfUnchanged (disch := first | omega | (simp <;> omega) | fail) only [go_sem, simprocAttr]

end Go.Proofs.Ytemnojaoickjfaa

/- Matchings of other books: maps; the books the other way around. -/
set_option linter.unusedSimpArgs false
set_option linter.unusedVariables false
set_option linter.unnecessarySimpa false
namespace Go.Proofs.Ytemnojaoickjfaa
open Go Go.V

/-- Matchings by maps of the entries. -/
theorem um_map {b o : FB} {f g : Int → Int} {t : List Pa} (h : UM o t)
    (hr : ∀ p ∈ t, (0 ≤ f p.one ∧ f p.one < (b.ones.length : Int)) ∧ (0 ≤ g p.other ∧ g p.other < (b.others.length : Int)) ∧ comB b.late (one b (f p.one).toNat) (oth b (g p.other).toNat) = true)
    (hf : ∀ p ∈ t, ∀ q ∈ t, f p.one = f q.one → p.one = q.one) (hg : ∀ p ∈ t, ∀ q ∈ t, g p.other = g q.other → p.other = q.other) :
    UM b (t.map fun p => ⟨f p.one, g p.other⟩) := by
  refine ⟨fun p hp => ?_, ?_, ?_⟩
  · obtain ⟨q, hq, rfl⟩ := List.mem_map.1 hp
    exact hr q hq
  · rw [List.pairwise_map]
    exact h.o.imp_of_mem fun {p q} hp hq hne e => hne (hf p hp q hq e)
  · rw [List.pairwise_map]
    exact h.d.imp_of_mem fun {p q} hp hq hne e => hne (hg p hp q hq e)
theorem um_filter {b : FB} {t : List Pa} (h : UM b t) (p : Pa → Bool) : UM b (t.filter p) :=
  ⟨fun x hx => h.p x (List.mem_filter.1 hx).1, h.o.filter _, h.d.filter _⟩

abbrev swB (b : FB) : FB := { b with ones := b.others, others := b.ones }
def swP (p : Pa) : Pa := ⟨p.other, p.one⟩
theorem vf_sw {b : FB} (hv : VF b) : VF (swB b) :=
  ⟨hv.bs, hv.pl, hv.pe, hv.la, hv.n2, hv.n1, fun e he => ⟨(hv.e2 e he).d, (hv.e2 e he).w, ⟨(hv.e2 e he).c.n, (hv.e2 e he).c.s⟩⟩, fun e he => ⟨(hv.e1 e he).d, (hv.e1 e he).w, ⟨(hv.e1 e he).c.n, (hv.e1 e he).c.s⟩⟩⟩
theorem comL_sym {x y : List Sp} (h : x.length = y.length) : comL y x = comL x y := by
  unfold comL comK
  rw [h]
  refine List.map_congr_left fun i _ => ?_
  unfold cmS
  congr 1
  · exact Int.max_comm _ _
  · exact Int.min_comm _ _
theorem dayI_sym (x y : En) : dayI y x = dayI x y := Int.max_comm _ _
theorem comB_sym {late : Int} {x y : En} (h : x.cord.length = y.cord.length) : comB late y x = comB late x y := by
  unfold comB
  rw [dayI_sym, comL_sym h]
  have : decide (y.who = x.who) = decide (x.who = y.who) := decide_eq_decide.2 ⟨Eq.symm, Eq.symm⟩
  rw [this]
theorem sw_len {b : FB} (hv : VF b) {i j : Nat} (hi : i < b.ones.length) (hj : j < b.others.length) : (one b i).cord.length = (oth b j).cord.length := both_len (one_v hv hi).c (oth_v hv hj).c
theorem um_sw {b : FB} (hv : VF b) {t : List Pa} (h : UM b t) : UM (swB b) (t.map swP) := by
  refine ⟨fun p hp => ?_, ?_, ?_⟩
  · obtain ⟨q, hq, rfl⟩ := List.mem_map.1 hp
    obtain ⟨h1, h2, h3⟩ := h.p q hq
    refine ⟨h2, h1, ?_⟩
    have := comB_sym (late := b.late) (sw_len hv (i := q.one.toNat) (j := q.other.toNat) (by omega) (by omega))
    rw [← h3, ← this]
    rfl
  · rw [List.pairwise_map]; exact h.d
  · rw [List.pairwise_map]; exact h.o
theorem fst_sw {b : FB} (hv : VF b) : (fstM (swB b)).length = (fstM b).length := by
  have h1 := um_le (um_sw hv (gm_um (fst_gm b)))
  have h2 := um_le (um_sw (vf_sw hv) (gm_um (fst_gm (swB b))))
  rw [List.length_map] at h1 h2
  have h2' : (fstM (swB b)).length ≤ (fstM b).length := h2
  omega
theorem few_sw {b : FB} (hv : VF b) : fewI (swB b) = fewI b := by
  unfold fewI
  rw [fst_sw hv]
  show (b.others.length : Int) + b.ones.length - _ = _
  omega
def swM (t : List Pa) : List Pa := srtM (t.map swP)
theorem lrg_sw {b : FB} (hv : VF b) {t : List Pa} (h : t ∈ lrgL b) : swM t ∈ lrgL (swB b) := by
  have h1 := lrg_iff.1 h
  refine lrg_iff.2 ⟨um_gm (um_sw hv (gm_um h1.1)), ?_⟩
  unfold swM
  rw [(srt_perm _).length_eq, List.length_map, h1.2, fst_sw hv]
theorem swM_mem {t : List Pa} {p : Pa} : p ∈ swM t ↔ swP p ∈ t := by
  unfold swM
  rw [(srt_perm _).mem_iff, List.mem_map]
  constructor
  · rintro ⟨q, hq, rfl⟩
    exact hq
  · intro h
    exact ⟨swP p, h, rfl⟩
theorem inO_sw {t : List Pa} (i : Nat) : inO (swM t) i = inT t i := by
  rw [Bool.eq_iff_iff]
  unfold inO inT
  simp only [List.any_eq_true, decide_eq_true_eq]
  constructor
  · rintro ⟨p, hp, e⟩
    exact ⟨swP p, swM_mem.1 hp, e⟩
  · rintro ⟨p, hp, e⟩
    exact ⟨swP p, swM_mem.2 hp, e⟩
theorem inT_sw {t : List Pa} (i : Nat) : inT (swM t) i = inO t i := by
  rw [Bool.eq_iff_iff]
  unfold inO inT
  simp only [List.any_eq_true, decide_eq_true_eq]
  constructor
  · rintro ⟨p, hp, e⟩
    exact ⟨swP p, swM_mem.1 hp, e⟩
  · rintro ⟨p, hp, e⟩
    exact ⟨swP p, swM_mem.2 hp, e⟩
theorem mem_mus {b : FB} {p : Pa} : p ∈ musL b ↔ ∀ t ∈ lrgL b, p ∈ t := by
  unfold musL musP
  rw [List.mem_filter, List.all_eq_true]
  constructor
  · rintro ⟨_, h⟩ t ht
    exact hasB_iff.1 (h t ht)
  · intro h
    exact ⟨h _ (fst_most b).1, fun t ht => hasB_iff.2 (h t ht)⟩
theorem mus_sw {b : FB} (hv : VF b) {p : Pa} (h : p ∈ musL b) : swP p ∈ musL (swB b) := by
  rw [mem_mus] at h ⊢
  intro t ht
  have := h _ (lrg_sw (vf_sw hv) ht)
  exact swM_mem.1 this
theorem inB_sw {t : List Pa} {n : Int} (hn : n = 0 ∨ n = 1) (i : Nat) : inB (1 - n) (swM t) i = inB n t i := by
  rcases hn with rfl | rfl
  · exact inT_sw i
  · exact inO_sw i
theorem aln_sw {b : FB} (hv : VF b) {n : Int} (hn : n = 0 ∨ n = 1) : alnL (swB b) (1 - n) = alnL b n := by
  have hP : ∀ i : Nat, alnP (swB b) (1 - n) i = alnP b n i := fun i => by
    unfold alnP
    congr 1
    rw [Bool.eq_iff_iff]
    simp only [List.any_eq_true]
    constructor
    · rintro ⟨t, ht, h⟩
      refine ⟨swM t, lrg_sw (vf_sw hv) ht, ?_⟩
      have := inB_sw (t := t) (n := 1 - n) (by omega) i
      rw [show (1 : Int) - (1 - n) = n by omega] at this
      rw [this, h]
    · rintro ⟨t, ht, h⟩
      exact ⟨swM t, lrg_sw hv ht, by rw [inB_sw hn, h]⟩
  have hL : (bokL (swB b) (1 - n)).length = (bokL b n).length := by rcases hn with rfl | rfl <;> rfl
  unfold alnL alnK
  rw [hL]
  congr 1
  exact List.filter_congr fun i _ => hP i
end Go.Proofs.Ytemnojaoickjfaa

/- Books without an entry. -/
set_option linter.unusedSimpArgs false
set_option linter.unusedVariables false
set_option linter.unnecessarySimpa false
namespace Go.Proofs.Ytemnojaoickjfaa
open Go Go.V

def woL (l : List En) (e : Nat) : List En := l.take e ++ l.drop (e + 1)
abbrev wo1 (b : FB) (e : Nat) : FB := { b with ones := woL b.ones e }
abbrev wo2 (b : FB) (e : Nat) : FB := { b with others := woL b.others e }
theorem woL_len {l : List En} {e : Nat} (h : e < l.length) : (woL l e).length = l.length - 1 := by
  unfold woL
  rw [List.length_append, List.length_take, List.length_drop]
  omega
theorem woL_get {l : List En} {e : Nat} (h : e < l.length) (i : Nat) : (woL l e)[i]?.getD default = l[if i < e then i else i + 1]?.getD default := by
  unfold woL
  by_cases hi : i < e
  · rw [if_pos hi, List.getElem?_append_left (by rw [List.length_take]; omega), List.getElem?_take, if_pos hi]
  · rw [if_neg hi, List.getElem?_append_right (by rw [List.length_take]; omega), List.length_take, List.getElem?_drop]
    congr 2
    omega
theorem woL_mem {l : List En} {e : Nat} {x : En} (h : x ∈ woL l e) : x ∈ l := by
  unfold woL at h
  rcases List.mem_append.1 h with h | h
  · exact List.mem_of_mem_take h
  · exact List.mem_of_mem_drop h
theorem vf_wo1 {b : FB} (hv : VF b) {e : Nat} (h : e < b.ones.length) : VF (wo1 b e) :=
  ⟨hv.bs, hv.pl, hv.pe, hv.la, by have := hv.n1; have := woL_len h; show (woL b.ones e).length ≤ 5; omega, hv.n2,
   fun x hx => ⟨(hv.e1 x (woL_mem hx)).d, (hv.e1 x (woL_mem hx)).w, ⟨(hv.e1 x (woL_mem hx)).c.n, (hv.e1 x (woL_mem hx)).c.s⟩⟩, fun x hx => ⟨(hv.e2 x hx).d, (hv.e2 x hx).w, ⟨(hv.e2 x hx).c.n, (hv.e2 x hx).c.s⟩⟩⟩
def upI (e : Nat) (i : Int) : Int := if i < (e : Int) then i else i + 1
def dnI (e : Nat) (i : Int) : Int := if i < (e : Int) then i else i - 1
theorem wo_one {b : FB} {e : Nat} (h : e < b.ones.length) {i : Int} (hi : 0 ≤ i) : one b (upI e i).toNat = one (wo1 b e) i.toNat := by
  show _ = (woL b.ones e)[i.toNat]?.getD default
  rw [woL_get h]
  unfold one upI
  congr 2
  split <;> split <;> omega
theorem um_up {b : FB} {e : Nat} (h : e < b.ones.length) {t : List Pa} (ht : UM (wo1 b e) t) : UM b (t.map fun p => ⟨upI e p.one, p.other⟩) := by
  have hl : (wo1 b e).ones.length = b.ones.length - 1 := woL_len h
  refine um_map (f := upI e) (g := fun i => i) ht (fun p hp => ?_) (fun p hp q hq hpq => ?_) (fun p hp q hq hpq => hpq)
  · obtain ⟨h1, h2, h3⟩ := ht.p p hp
    refine ⟨by unfold upI; split <;> omega, h2, ?_⟩
    rw [wo_one h h1.1]
    exact h3
  · unfold upI at hpq
    have h1 := (ht.p p hp).1
    have h2 := (ht.p q hq).1
    split at hpq <;> split at hpq <;> omega
theorem up_ne {e : Nat} {t : List Pa} {p : Pa} (hp : p ∈ t.map fun p : Pa => (⟨upI e p.one, p.other⟩ : Pa)) : p.one ≠ (e : Int) := by
  obtain ⟨q, hq, rfl⟩ := List.mem_map.1 hp
  show upI e q.one ≠ e
  unfold upI
  split <;> omega
theorem um_dn {b : FB} {e : Nat} (h : e < b.ones.length) {t : List Pa} (ht : UM b t) (hne : ∀ p ∈ t, p.one ≠ (e : Int)) : UM (wo1 b e) (t.map fun p => ⟨dnI e p.one, p.other⟩) := by
  have hl : (wo1 b e).ones.length = b.ones.length - 1 := woL_len h
  refine um_map (f := dnI e) (g := fun i => i) ht (fun p hp => ?_) (fun p hp q hq hpq => ?_) (fun p hp q hq hpq => hpq)
  · obtain ⟨h1, h2, h3⟩ := ht.p p hp
    have h4 := hne p hp
    have h5 : 0 ≤ dnI e p.one ∧ dnI e p.one < ((wo1 b e).ones.length : Int) := by unfold dnI; split <;> omega
    refine ⟨h5, h2, ?_⟩
    have h6 : upI e (dnI e p.one) = p.one := by
      unfold upI dnI
      by_cases h1 : p.one < (e : Int)
      · rw [if_pos h1, if_pos h1]
      · rw [if_neg h1, if_neg (by omega)]; omega
    rw [← wo_one h h5.1, h6]
    exact h3
  · unfold dnI at hpq
    have h1 := hne p hp
    have h2 := hne q hq
    split at hpq <;> split at hpq <;> omega

/-- What an entry less of Ones does. -/
theorem less1 {b : FB} {e : Nat} (h : e < b.ones.length) :
    (fewI (wo1 b e) = fewI b ∨ fewI (wo1 b e) = fewI b - 1) ∧ (inB 0 (musL b) e = true → fewI (wo1 b e) = fewI b) ∧ ((e : Int) ∈ alnL b 0 → fewI (wo1 b e) = fewI b - 1) := by
  have hl : (wo1 b e).ones.length = b.ones.length - 1 := woL_len h
  have hf : fewI (wo1 b e) = ((b.ones.length - 1 : Nat) : Int) + b.others.length - (fstM (wo1 b e)).length := by
    unfold fewI
    rw [hl]
  have hb : fewI b = (b.ones.length : Int) + b.others.length - (fstM b).length := rfl
  have g1 : (fstM (wo1 b e)).length ≤ (fstM b).length := by
    have := um_le (um_up h (gm_um (fst_gm (wo1 b e))))
    rwa [List.length_map] at this
  have g2 : (fstM b).length ≤ (fstM (wo1 b e)).length + 1 := by
    have hu := um_filter (gm_um (fst_gm b)) fun p => decide (p.one ≠ (e : Int))
    have := um_le (um_dn h hu fun p hp => of_decide_eq_true (List.mem_filter.1 hp).2)
    rw [List.length_map] at this
    have h2 := filter_ne_len (e : Int) ((fstM b).map fun p => p.one) (by rw [List.pairwise_map]; exact (gm_um (fst_gm b)).o)
    rw [List.length_map] at h2
    have h3 : (((fstM b).map fun p => p.one).filter fun x => decide (x ≠ (e : Int))).length = ((fstM b).filter fun p => decide (p.one ≠ (e : Int))).length := by
      rw [List.filter_map, List.length_map]
      rfl
    omega
  refine ⟨by omega, fun hm => ?_, fun ha => ?_⟩
  · -- it must be in a pair
    have : (fstM (wo1 b e)).length ≠ (fstM b).length := by
      intro heq
      have hu := um_up h (gm_um (fst_gm (wo1 b e)))
      have hin : srtM ((fstM (wo1 b e)).map fun p => ⟨upI e p.one, p.other⟩) ∈ lrgL b := lrg_iff.2 ⟨um_gm hu, by rw [(srt_perm _).length_eq, List.length_map, heq]⟩
      unfold inB at hm
      obtain ⟨p, hp, hpe⟩ := List.any_eq_true.1 hm
      have hpe : p.one = (e : Int) := of_decide_eq_true hpe
      have := mem_mus.1 hp _ hin
      rw [(srt_perm _).mem_iff] at this
      exact up_ne this hpe
    omega
  · have hno := aln_not (fst_most b).1 ha
    have hno2 : ∀ p ∈ fstM b, p.one ≠ (e : Int) := fun p hp hpe => by
      unfold inB at hno
      rw [List.any_eq_false] at hno
      exact hno p hp (decide_eq_true hpe)
    have := um_le (um_dn h (gm_um (fst_gm b)) hno2)
    rw [List.length_map] at this
    omega
abbrev woB (b : FB) (n : Int) (e : Nat) : FB := if n = 1 then wo2 b e else wo1 b e
theorem inB_mus_sw {b : FB} (hv : VF b) {e : Nat} (h : inB 1 (musL b) e = true) : inB 0 (musL (swB b)) e = true := by
  unfold inB at h ⊢
  obtain ⟨p, hp, hpe⟩ := List.any_eq_true.1 h
  exact List.any_eq_true.2 ⟨swP p, mus_sw hv hp, hpe⟩
theorem less_spec {b : FB} (hv : VF b) {n : Int} (hn : n = 0 ∨ n = 1) {e : Nat} (h : e < (bokL b n).length) :
    (fewI (woB b n e) = fewI b ∨ fewI (woB b n e) = fewI b - 1) ∧ (inB n (musL b) e = true → fewI (woB b n e) = fewI b) ∧ ((e : Int) ∈ alnL b n → fewI (woB b n e) = fewI b - 1) := by
  rcases hn with rfl | rfl
  · exact less1 h
  · have h' : e < (swB b).ones.length := h
    have e1 : fewI (woB b 1 e) = fewI (wo1 (swB b) e) := few_sw (b := wo1 (swB b) e) (vf_wo1 (vf_sw hv) h')
    have e2 := few_sw hv
    have e3 : alnL (swB b) 0 = alnL b 1 := aln_sw hv (.inr rfl)
    rw [e1, ← e2, ← e3]
    obtain ⟨a1, a2, a3⟩ := less1 h'
    exact ⟨a1, fun hm => a2 (inB_mus_sw hv hm), a3⟩
theorem chk_wo {b : FB} (hc : chkB b = true) (n : Int) {e : Nat} : chkB (woB b n e) = true := by
  have key : ∀ l : List En, listB b l = true → listB b (woL l e) = true := fun l h => by
    unfold listB at h ⊢
    simp only [Bool.and_eq_true, decide_eq_true_eq, List.all_eq_true] at h ⊢
    refine ⟨?_, fun x hx => h.2 x (woL_mem hx)⟩
    have : (woL l e).length ≤ l.length := by
      unfold woL
      rw [List.length_append, List.length_take, List.length_drop]
      omega
    omega
  unfold chkB at hc
  simp only [Bool.and_eq_true] at hc
  obtain ⟨c1, c2, c3, c4, c5⟩ := hc
  have hl : ∀ o : FB, o.base = b.base → o.places = b.places → o.persons = b.persons → o.late = b.late → listB o o.ones = true → listB o o.others = true → chkB o = true := fun o h1 h2 h3 h4 h5 h6 => by
    unfold chkB bpB
    unfold bpB at c1
    rw [h1, h2, h3, h4, h5, h6, c1, c2, c3]
    rfl
  unfold woB
  split
  · exact hl _ rfl rfl rfl rfl c4 (key _ c5)
  · exact hl _ rfl rfl rfl rfl (key _ c4) c5
theorem sm_wo {b : FB} (hs : SmF b) (n : Int) {e : Nat} : SmF (woB b n e) := by
  have key : ∀ l : List En, SmE l → SmE (woL l e) := fun l h => by
    refine ⟨?_, fun x hx => h.c x (woL_mem hx)⟩
    have : (woL l e).length ≤ l.length := by
      unfold woL
      rw [List.length_append, List.length_take, List.length_drop]
      omega
    have := h.n
    omega
  unfold woB
  split
  · exact ⟨hs.ones, key _ hs.others⟩
  · exact ⟨key _ hs.ones, hs.others⟩

theorem c46 (l : List Int) (n : Int) (hl : l.length < 4294967296) : Ctr Try.prog 46 [IS l, .int n] (.bool (l.any fun x => decide (x = n))) := by
  refine ctr_of_wp hmix Try.func46 m46 rfl ?_
  unfold v46
  simp -failIfUnchanged (disch := first | omega | (simp <;> omega) | fail) only [go_sem, simprocAttr]
  refine wp_loop' Nat (fun i => ⟨[(0, IS l), (1, .int n), (5, .int i)], [], [], none⟩) (fun i => i ≤ l.length ∧ ∀ x ∈ l.take i, decide (x = n) = false) (fun i => l.length - i) 0 (by simp) (by simp -failIfUnchanged (disch := first | omega | (simp <;> omega) | fail) only [go_sem, simprocAttr]; try simp) ?_
  rintro i ⟨hi, hpre⟩
  simp -failIfUnchanged (disch := first | omega | (simp <;> omega) | fail) only [go_sem, simprocAttr]
  refine wcond_dec (fun h => ?_) (fun h => ?_)
  · have hlt : i < l.length := by omega
    obtain ⟨x, hx⟩ : ∃ x, l[i]?.getD default = x := ⟨_, rfl⟩
    simp -failIfUnchanged (disch := first | omega | (simp <;> omega) | fail) only [go_sem, simprocAttr, hx]
    refine wcond_dec (fun h2 => ?_) (fun h2 => ?_)
    · rw [any_take (p := fun x : Int => decide (x = n)) hlt hpre (by rw [hx]; exact decide_eq_true h2)]
      simp -failIfUnchanged (disch := first | omega | (simp <;> omega) | fail) only [go_sem, simprocAttr]
    · simp -failIfUnchanged (disch := first | omega | (simp <;> omega) | fail) only [go_sem, simprocAttr]
      refine ⟨i + 1, ⟨by omega, take_succ_all (p := fun x : Int => decide (x = n)) hlt hpre (by rw [hx]; exact decide_eq_false h2)⟩, by dsimp only; omega, ?_⟩
      simp -failIfUnchanged (disch := first | omega | (simp <;> omega) | fail) only [go_sem, simprocAttr]
      try simp
  · have e : i = l.length := by omega
    rw [e, List.take_length] at hpre
    rw [any_none (p := fun x : Int => decide (x = n)) hpre]
    simp -failIfUnchanged (disch := first | omega | (simp <;> omega) | fail) only [go_sem, simprocAttr]

theorem c42 (b : FB) (hs : SmF b) (n : Int) (e : Nat) (h : e < (if n = 1 then b.others else b.ones).length) : Ctr Try.prog 42 [FK b, .int n, .int e] (FK (woB b n e)) := by
  refine ctr_of_wp hmix Try.func42 m42f rfl ?_
  unfold v42f
  have hn1 := hs.ones.n
  have hn2 := hs.others.n
  simp -failIfUnchanged (disch := first | omega | (simp <;> omega) | fail) only [go_sem, simprocAttr]
  refine wcall (c16 b hs) ?_
  simp -failIfUnchanged (disch := first | omega | (simp <;> omega) | fail) only [go_sem, simprocAttr]
  refine wcond_dec (fun hc => ?_) (fun hc => ?_)
  · rw [if_pos hc] at h
    unfold woB
    rw [if_pos hc]
    simp -failIfUnchanged (disch := first | omega | (simp <;> omega) | fail) only [go_sem, simprocAttr]
    simp [woL]
  · rw [if_neg hc] at h
    unfold woB
    rw [if_neg hc]
    simp -failIfUnchanged (disch := first | omega | (simp <;> omega) | fail) only [go_sem, simprocAttr]
    simp [woL]

end Go.Proofs.Ytemnojaoickjfaa

/- FinesLess. -/
set_option linter.unusedSimpArgs false
set_option linter.unusedVariables false
set_option linter.unnecessarySimpa false
namespace Go.Proofs.Ytemnojaoickjfaa
open Go Go.V

set_option maxRecDepth 10000 in
theorem c9 (b : FB) (n e : Int) : Ctr Try.prog 9 [FK b, .int n, .int e] (.bool true) := by
  refine ctr_of_wp hmix Try.func9 m9 rfl ?_
  unfold v9
  simp -failIfUnchanged (disch := first | omega | (simp <;> omega) | fail) only [go_sem, simprocAttr]
  refine wcall (c22 b) ?_
  cases hr : rdyF b with
  | false =>
    simp -failIfUnchanged (disch := first | omega | (simp <;> omega) | fail) only [go_sem, simprocAttr]
    refine wcall c15 ?_
    simp -failIfUnchanged (disch := first | omega | (simp <;> omega) | fail) only [go_sem, simprocAttr]
  | true =>
    obtain ⟨hs, hc, hv⟩ := rdy_of hr
    simp -failIfUnchanged (disch := first | omega | (simp <;> omega) | fail) only [go_sem, simprocAttr]
    refine wcall (c38 n) ?_
    cases hw : within n 0 1 with
    | false =>
      simp -failIfUnchanged (disch := first | omega | (simp <;> omega) | fail) only [go_sem, simprocAttr]
      refine wcall c15 ?_
      simp -failIfUnchanged (disch := first | omega | (simp <;> omega) | fail) only [go_sem, simprocAttr]
    | true =>
      have k39 := c39 b n
      rw [ent_bok hw] at k39
      have hn01 := in_01 hw
      simp -failIfUnchanged (disch := first | omega | (simp <;> omega) | fail) only [go_sem, simprocAttr]
      refine wcall k39 ?_
      have k33 := c33 e 0 (w64 (((bokL b n).length : Int) - 1))
      obtain ⟨u, hu⟩ : ∃ u, within e 0 (w64 (((bokL b n).length : Int) - 1)) = u := ⟨_, rfl⟩
      rw [hu] at k33
      have hl5 := bok_5 hv n
      have hw64 : w64 (((bokL b n).length : Int) - 1) = ((bokL b n).length : Int) - 1 := w64_id (by omega)
      simp -failIfUnchanged (disch := first | omega | (simp <;> omega) | fail) only [go_sem, simprocAttr]
      rw [hw64] at k33 hu
      refine wcall k33 ?_
      cases u with
      | false =>
        simp -failIfUnchanged (disch := first | omega | (simp <;> omega) | fail) only [go_sem, simprocAttr]
        refine wcall c15 ?_
        simp -failIfUnchanged (disch := first | omega | (simp <;> omega) | fail) only [go_sem, simprocAttr]
      | true =>
        have hu' : 0 ≤ e ∧ e ≤ ((bokL b n).length : Int) - 1 := by simpa [within] using hu
        obtain ⟨q, rfl⟩ : ∃ q : Nat, e = q := ⟨e.toNat, by omega⟩
        have hq : q < (bokL b n).length := by omega
        obtain ⟨g1, g2, g3⟩ := less_spec hv hn01 hq
        have hq2 : q < (if n = 1 then b.others else b.ones).length := by rw [ent_bok hw]; exact hq
        have k42 := c42 b hs n q hq2
        have k23 := c23 b hs hc
        have k24 := c23 (woB b n q) (sm_wo hs n) (chk_wo hc n)
        have k43 := c43 b hs
        have he : errF b = 0 := by unfold errF; rw [hc]; rfl
        unfold musR at k43
        rw [he, if_pos hc] at k43
        have k27 := c27 b hs n
        unfold alnR at k27
        have hb0 : bkE b n = 0 := ask_ok hc hw
        rw [hb0, if_pos rfl] at k27
        have hm1 : (musL b).length ≤ b.ones.length := by
          have h1 : (musL b).length ≤ (fstM b).length := List.length_filter_le _ _
          have := fst_ones b
          omega
        have ha5 := aln_5 hv n
        have k44 := c44 (musL b) q (by have := mus_5 hv; omega)
        have k45 := c45 (musL b) q (by have := mus_5 hv; omega)
        have k46 := c46 (alnL b n) q (by omega)
        have hal : (alnL b n).any (fun x => decide (x = (q : Int))) = true → (q : Int) ∈ alnL b n := fun h => by
          obtain ⟨x, hx, hxe⟩ := List.any_eq_true.1 h
          rw [← of_decide_eq_true hxe]; exact hx
        have hi0 : n = 0 → inB n (musL b) q = (musL b).any fun p => decide (p.one = (q : Int)) := fun h => by subst h; rfl
        have hi1 : n = 1 → inB n (musL b) q = (musL b).any fun p => decide (p.other = (q : Int)) := fun h => by subst h; rfl
        have hF : 0 ≤ fewI b ∧ fewI b ≤ 10 := by
          have := fst_ones b
          have := hv.n1
          have := hv.n2
          unfold fewI
          omega
        generalize fewI (woB b n q) = F' at *
        generalize fewI b = F at *
        generalize musL b = M at *
        generalize alnL b n = A at *
        have d0 : decide (¬ (0 : Int) = 0) = false := rfl
        have d1 : decide ((b.ones.length : Int) < M.length) = false := decide_eq_false (by omega)
        have d2 : decide ((5 : Int) < A.length) = false := decide_eq_false (by omega)
        simp -failIfUnchanged (disch := first | omega | (simp <;> omega) | fail) only [go_sem, simprocAttr]
        refine wcall k23 ?_
        simp -failIfUnchanged (disch := first | omega | (simp <;> omega) | fail) only [go_sem, simprocAttr]
        refine wcall k42 ?_
        simp -failIfUnchanged (disch := first | omega | (simp <;> omega) | fail) only [go_sem, simprocAttr]
        refine wcall k24 ?_
        simp -failIfUnchanged (disch := first | omega | (simp <;> omega) | fail) only [go_sem, simprocAttr]
        refine wcall k43 ?_
        simp -failIfUnchanged (disch := first | omega | (simp <;> omega) | fail) only [go_sem, simprocAttr]
        refine wcall k27 ?_
        have e01 : decide ((0 : Int) = 1) = false := rfl
        have e10 : decide ((1 : Int) = 0) = false := rfl
        have dFF : decide (¬ F = F) = false := decide_eq_false (by simp)
        have dF1 : decide (¬ F - 1 = F) = true := decide_eq_true (by omega)
        have dF2 : decide (¬ F - 1 = F - 1) = false := decide_eq_false (by simp)
        have dF3 : decide (F = F - 1) = false := decide_eq_false (by omega)
        have dF4 : decide (F - 1 = F) = false := decide_eq_false (by omega)
        obtain ⟨z, hz⟩ : ∃ z, A.any (fun x => decide (x = (q : Int))) = z := ⟨_, rfl⟩
        rw [hz] at k46 hal
        obtain ⟨w, hw2⟩ : ∃ w, inB n M q = w := ⟨_, rfl⟩
        rw [hw2] at g2 hi0 hi1
        simp -failIfUnchanged (disch := first | omega | (simp <;> omega) | fail) only [go_sem, simprocAttr, d0, d1, d2]
        rcases g1 with rfl | rfl
        · have hz0 : z = false := by
            cases z with
            | false => rfl
            | true => have := g3 (hal rfl); omega
          subst hz0
          rcases hn01 with rfl | rfl
          · rw [← hi0 rfl] at k44
            simp -failIfUnchanged (disch := first | omega | (simp <;> omega) | fail) only [go_sem, simprocAttr, dFF, eq_self]
            refine wcall k44 ?_
            cases w with
            | true =>
              simp -failIfUnchanged (disch := first | omega | (simp <;> omega) | fail) only [go_sem, simprocAttr, eq_self, e01]
              refine wcall k46 ?_
              simp -failIfUnchanged (disch := first | omega | (simp <;> omega) | fail) only [go_sem, simprocAttr, eq_self]
              refine wcall c15 ?_
              simp -failIfUnchanged (disch := first | omega | (simp <;> omega) | fail) only [go_sem, simprocAttr]
            | false =>
              simp -failIfUnchanged (disch := first | omega | (simp <;> omega) | fail) only [go_sem, simprocAttr, eq_self, e01]
              refine wcall k46 ?_
              simp -failIfUnchanged (disch := first | omega | (simp <;> omega) | fail) only [go_sem, simprocAttr, eq_self]
              refine wcall c15 ?_
              simp -failIfUnchanged (disch := first | omega | (simp <;> omega) | fail) only [go_sem, simprocAttr]
          · rw [← hi1 rfl] at k45
            simp -failIfUnchanged (disch := first | omega | (simp <;> omega) | fail) only [go_sem, simprocAttr, dFF, eq_self, e10]
            simp -failIfUnchanged (disch := first | omega | (simp <;> omega) | fail) only [go_sem, simprocAttr, dFF, eq_self, e10]
            refine wcall k45 ?_
            cases w with
            | true =>
              simp -failIfUnchanged (disch := first | omega | (simp <;> omega) | fail) only [go_sem, simprocAttr, eq_self]
              refine wcall k46 ?_
              simp -failIfUnchanged (disch := first | omega | (simp <;> omega) | fail) only [go_sem, simprocAttr, eq_self]
              refine wcall c15 ?_
              simp -failIfUnchanged (disch := first | omega | (simp <;> omega) | fail) only [go_sem, simprocAttr]
            | false =>
              simp -failIfUnchanged (disch := first | omega | (simp <;> omega) | fail) only [go_sem, simprocAttr, eq_self]
              refine wcall k46 ?_
              simp -failIfUnchanged (disch := first | omega | (simp <;> omega) | fail) only [go_sem, simprocAttr, eq_self]
              refine wcall c15 ?_
              simp -failIfUnchanged (disch := first | omega | (simp <;> omega) | fail) only [go_sem, simprocAttr]
        · have hw0 : w = false := by
            cases w with
            | false => rfl
            | true => have := g2 rfl; omega
          subst hw0
          rcases hn01 with rfl | rfl
          · rw [← hi0 rfl] at k44
            simp -failIfUnchanged (disch := first | omega | (simp <;> omega) | fail) only [go_sem, simprocAttr, dF1, dF2, eq_self]
            refine wcall k44 ?_
            simp -failIfUnchanged (disch := first | omega | (simp <;> omega) | fail) only [go_sem, simprocAttr, eq_self, e01]
            refine wcall k46 ?_
            cases z with
            | true =>
              simp -failIfUnchanged (disch := first | omega | (simp <;> omega) | fail) only [go_sem, simprocAttr, eq_self]
              refine wcall c15 ?_
              simp -failIfUnchanged (disch := first | omega | (simp <;> omega) | fail) only [go_sem, simprocAttr]
            | false =>
              simp -failIfUnchanged (disch := first | omega | (simp <;> omega) | fail) only [go_sem, simprocAttr, eq_self]
              refine wcall c15 ?_
              simp -failIfUnchanged (disch := first | omega | (simp <;> omega) | fail) only [go_sem, simprocAttr]
          · rw [← hi1 rfl] at k45
            simp -failIfUnchanged (disch := first | omega | (simp <;> omega) | fail) only [go_sem, simprocAttr, dF1, dF2, eq_self, e10]
            simp -failIfUnchanged (disch := first | omega | (simp <;> omega) | fail) only [go_sem, simprocAttr, dF1, dF2, eq_self, e10]
            refine wcall k45 ?_
            simp -failIfUnchanged (disch := first | omega | (simp <;> omega) | fail) only [go_sem, simprocAttr, eq_self]
            refine wcall k46 ?_
            cases z with
            | true =>
              simp -failIfUnchanged (disch := first | omega | (simp <;> omega) | fail) only [go_sem, simprocAttr, eq_self]
              refine wcall c15 ?_
              simp -failIfUnchanged (disch := first | omega | (simp <;> omega) | fail) only [go_sem, simprocAttr]
            | false =>
              simp -failIfUnchanged (disch := first | omega | (simp <;> omega) | fail) only [go_sem, simprocAttr, eq_self]
              refine wcall c15 ?_
              simp -failIfUnchanged (disch := first | omega | (simp <;> omega) | fail) only [go_sem, simprocAttr]

end Go.Proofs.Ytemnojaoickjfaa
