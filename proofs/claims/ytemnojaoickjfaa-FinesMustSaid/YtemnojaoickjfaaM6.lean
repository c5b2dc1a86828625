/- Merged by program: T39. -/
import Derived.Test.YtemnojaoickjfaaM5
/- Twice; FinesMust. -/
set_option linter.unusedSimpArgs false
set_option linter.unusedVariables false
set_option linter.unnecessarySimpa false
namespace Go.Proofs.Ytemnojaoickjfaa
open Go Go.V

/-- The pairs of a book's entries that could be one: row by row. -/
def twP (late : Int) (l : List En) (i k : Nat) : Bool := decide (i < k) && comB late (l[i]?.getD default) (l[k]?.getD default)
def twR (late : Int) (l : List En) (i m : Nat) : List Pa := ((List.range m).filter (twP late l i)).map fun k : Nat => (⟨(i : Int), (k : Int)⟩ : Pa)
def twK (late : Int) (l : List En) : Nat → List Pa
  | 0 => []
  | i + 1 => twK late l i ++ twR late l i l.length
def twcR (b : FB) (n : Int) : AV := .tup [PS (if bkE b n = 0 then twK b.late (bokL b n) (bokL b n).length else []), .int (bkE b n)]
theorem twR_succ (late : Int) (l : List En) (i m : Nat) : twR late l i (m + 1) = twR late l i m ++ (if twP late l i m then [⟨(i : Int), (m : Int)⟩] else []) := by
  unfold twR
  rw [List.range_succ, List.filter_append, List.map_append]
  congr 1
  by_cases h : twP late l i m <;> simp [h]
theorem twR_0 (late : Int) (l : List En) (i : Nat) : twR late l i (i + 1) = [] := by
  unfold twR
  have : (List.range (i + 1)).filter (twP late l i) = [] := by
    rw [List.filter_eq_nil_iff]
    intro k hk
    have := List.mem_range.1 hk
    have : decide (i < k) = false := decide_eq_false (by omega)
    simp [twP, this]
  rw [this]
  rfl
theorem twR_len (late : Int) (l : List En) (i m : Nat) : (twR late l i m).length ≤ m := by
  unfold twR
  rw [List.length_map]
  exact Nat.le_trans (List.length_filter_le _ _) (by simp)
theorem twK_len (late : Int) (l : List En) : ∀ i, (twK late l i).length ≤ i * l.length
  | 0 => by simp [twK]
  | i + 1 => by
    unfold twK
    rw [List.length_append, Nat.succ_mul]
    have := twK_len late l i
    have := twR_len late l i l.length
    omega
theorem bok_v {b : FB} (hv : VF b) {n : Int} {i : Nat} (h : i < (bokL b n).length) : VE b ((bokL b n)[i]?.getD default) := by
  have := mem_getD h
  unfold bokL at this ⊢
  by_cases e : n = 0
  · rw [if_pos e] at this ⊢; exact hv.e1 _ this
  · rw [if_neg e] at this ⊢; exact hv.e2 _ this
theorem bok_5 {b : FB} (hv : VF b) (n : Int) : (bokL b n).length ≤ 5 := by
  have := hv.n1
  have := hv.n2
  unfold bokL
  split <;> omega

set_option maxRecDepth 10000 in
theorem c60 (b : FB) (hs : SmF b) (n : Int) : Ctr Try.prog 60 [FK b, .int n] (twcR b n) := by
  refine ctr_of_wp hmix Try.func60 m60 rfl ?_
  unfold v60 twcR
  have a1 := c71 n 0 1
  have a2 := c70 b hs (within n 0 1)
  obtain ⟨e, hE⟩ : ∃ e, bkE b n = e := ⟨_, rfl⟩
  have hE' : askF b (within n 0 1) = e := hE
  rw [hE'] at a2
  rw [hE]
  simp -failIfUnchanged (disch := first | omega | (simp <;> omega) | fail) only [go_sem, simprocAttr]
  refine wcall a1 ?_
  simp -failIfUnchanged (disch := first | omega | (simp <;> omega) | fail) only [go_sem, simprocAttr]
  refine wcall a2 ?_
  by_cases h0 : e = 0
  · subst h0
    obtain ⟨hc, hw⟩ := pr_0 hE'
    have hv := vf_of hc
    have k3 := c73 b n
    have hl5 := bok_5 hv n
    have hve : ∀ i, i < (bokL b n).length → VE b ((bokL b n)[i]?.getD default) := fun i hi => bok_v hv hi
    generalize bokL b n = l at k3 hl5 hve ⊢
    have hpl := hv.pl
    simp -failIfUnchanged (disch := first | omega | (simp <;> omega) | fail) only [go_sem, simprocAttr]
    refine wcall k3 ?_
    simp -failIfUnchanged (disch := first | omega | (simp <;> omega) | fail) only [go_sem, simprocAttr]
    refine wp_loop' Nat (fun i => ⟨[(2, .ptr 2 0), (7, ES l), (9, .sl 2 ((twK b.late l i).map PA) (.own 9)), (28, ES l), (29, .int l.length), (30, .int i)], [(2, ⟨FKc b, false⟩)], [(9, (twK b.late l i).length)], none⟩) (fun i => i ≤ l.length) (fun i => l.length - i) 0 (by simp) (by simp -failIfUnchanged (disch := first | omega | (simp <;> omega) | fail) only [go_sem, simprocAttr]; simp [twK]) ?_
    intro i hi
    have hi : i ≤ l.length := hi
    have hkl := twK_len b.late l i
    have hkl2 : i * l.length ≤ 25 := by have := Nat.mul_le_mul (show i ≤ 5 by omega) hl5; omega
    simp -failIfUnchanged (disch := first | omega | (simp <;> omega) | fail) only [go_sem, simprocAttr]
    refine wcond_dec (fun h1 => ?_) (fun h1 => ?_)
    · have hil : i < l.length := by omega
      obtain ⟨x, hx⟩ : ∃ x, l[i]?.getD default = x := ⟨_, rfl⟩
      have hvx := hve i hil
      rw [hx] at hvx
      have hks : twK b.late l (i + 1) = twK b.late l i ++ twR b.late l i l.length := rfl
      simp -failIfUnchanged (disch := first | omega | (simp <;> omega) | fail) only [go_sem, simprocAttr, hx]
      refine wp_loop' Nat (fun k => ⟨[(2, .ptr 2 0), (7, ES l), (9, .sl 2 ((twK b.late l i ++ twR b.late l i k).map PA) (.own 9)), (10, .int i), (11, .ptr 11 0), (12, .int k), (28, ES l), (29, .int l.length), (30, .int i)],
        [(11, ⟨[.int x.day, .int x.who, SS x.cord], false⟩), (2, ⟨FKc b, false⟩)], [(9, (twK b.late l i ++ twR b.late l i k).length)], none⟩) (fun k => i < k ∧ k ≤ l.length) (fun k => l.length - k) (i + 1) ⟨by omega, by omega⟩ (by rw [twR_0]; simp -failIfUnchanged (disch := first | omega | (simp <;> omega) | fail) only [go_sem, simprocAttr]; simp) ?_
      rintro k ⟨hik, hk⟩
      have hrl := twR_len b.late l i k
      have hal : (twK b.late l i ++ twR b.late l i k).length ≤ 100 := by rw [List.length_append]; omega
      have hrs3 : twK b.late l i ++ twR b.late l i (k + 1) = (twK b.late l i ++ twR b.late l i k) ++ (if twP b.late l i k then [⟨(i : Int), (k : Int)⟩] else []) := by rw [twR_succ, List.append_assoc]
      have hks2 : k = l.length → twK b.late l (i + 1) = twK b.late l i ++ twR b.late l i k := fun e => by subst e; rfl
      generalize twK b.late l i ++ twR b.late l i k = A at hal hrs3 hks2 ⊢
      simp -failIfUnchanged (disch := first | omega | (simp <;> omega) | fail) only [go_sem, simprocAttr]
      refine wcond_dec (fun h2 => ?_) (fun h2 => ?_)
      · have hkl : k < l.length := by omega
        obtain ⟨y, hy⟩ : ∃ y, l[k]?.getD default = y := ⟨_, rfl⟩
        have hvy := hve k hkl
        rw [hy] at hvy
        have hn2 := hvy.c.n
        have k79 := c79 b.late x y (by rw [both_len hvx.c hvy.c]; exact Nat.le_refl _) (by omega)
        have htp : twP b.late l i k = comB b.late x y := by
          unfold twP
          rw [hx, hy, decide_eq_true hik, Bool.true_and]
        have hrs2 := hrs3
        rw [htp] at hrs2
        simp -failIfUnchanged (disch := first | omega | (simp <;> omega) | fail) only [go_sem, simprocAttr, hy]
        refine wcall k79 ?_
        simp -failIfUnchanged (disch := first | omega | (simp <;> omega) | fail) only [go_sem, simprocAttr]
        cases hcm : comB b.late x y with
        | true =>
          rw [hcm] at hrs2
          simp -failIfUnchanged (disch := first | omega | (simp <;> omega) | fail) only [go_sem, simprocAttr]
          refine ⟨k + 1, ⟨by omega, by omega⟩, by dsimp only; omega, ?_⟩
          dsimp only
          have hln := congrArg List.length hrs2
          simp only [List.length_append, if_true, Bool.false_eq_true, if_false, List.length_cons, List.length_nil] at hln
          rw [hrs2]
          simp -failIfUnchanged (disch := first | omega | (simp <;> omega) | fail) only [go_sem, simprocAttr]
          try simp
          try omega
        | false =>
          rw [hcm] at hrs2
          simp -failIfUnchanged (disch := first | omega | (simp <;> omega) | fail) only [go_sem, simprocAttr]
          refine ⟨k + 1, ⟨by omega, by omega⟩, by dsimp only; omega, ?_⟩
          dsimp only
          have hln := congrArg List.length hrs2
          simp only [List.length_append, if_true, Bool.false_eq_true, if_false, List.length_cons, List.length_nil] at hln
          rw [hrs2]
          simp -failIfUnchanged (disch := first | omega | (simp <;> omega) | fail) only [go_sem, simprocAttr]
          try simp
          try omega
      · have ek : k = l.length := by omega
        simp -failIfUnchanged (disch := first | omega | (simp <;> omega) | fail) only [go_sem, simprocAttr]
        refine ⟨i + 1, by dsimp only; omega, by dsimp only; omega, ?_⟩
        dsimp only
        rw [hks2 ek]
        simp -failIfUnchanged (disch := first | omega | (simp <;> omega) | fail) only [go_sem, simprocAttr]
        try simp
    · have ei : i = l.length := by omega
      subst ei
      simp -failIfUnchanged (disch := first | omega | (simp <;> omega) | fail) only [go_sem, simprocAttr]
      try simp
  · have hd : decide (¬ e = 0) = true := decide_eq_true h0
    simp -failIfUnchanged (disch := first | omega | (simp <;> omega) | fail) only [go_sem, simprocAttr, hd]
    simp [h0]

set_option maxRecDepth 10000 in
theorem c61 (b : FB) (hs : SmF b) (n : Int) : Ctr Try.prog 61 [FK b, .int n] (twcR b n) := by
  refine ctr_of_wp hmix Try.func61 m61 rfl ?_
  unfold v61 twcR
  have a1 := c38 n
  have a2 := c74 b hs (within n 0 1)
  obtain ⟨e, hE⟩ : ∃ e, bkE b n = e := ⟨_, rfl⟩
  have hE' : askF b (within n 0 1) = e := hE
  rw [hE'] at a2
  rw [hE]
  simp -failIfUnchanged (disch := first | omega | (simp <;> omega) | fail) only [go_sem, simprocAttr]
  refine wcall a1 ?_
  simp -failIfUnchanged (disch := first | omega | (simp <;> omega) | fail) only [go_sem, simprocAttr]
  refine wcall a2 ?_
  by_cases h0 : e = 0
  · subst h0
    obtain ⟨hc, hw⟩ := pr_0 hE'
    have hv := vf_of hc
    have k3 := c39 b n
    rw [ent_bok hw] at k3
    have hl5 := bok_5 hv n
    have hve : ∀ i, i < (bokL b n).length → VE b ((bokL b n)[i]?.getD default) := fun i hi => bok_v hv hi
    generalize bokL b n = l at k3 hl5 hve ⊢
    have hpl := hv.pl
    simp -failIfUnchanged (disch := first | omega | (simp <;> omega) | fail) only [go_sem, simprocAttr]
    refine wcall k3 ?_
    simp -failIfUnchanged (disch := first | omega | (simp <;> omega) | fail) only [go_sem, simprocAttr]
    refine wp_loop' Nat (fun i => ⟨[(2, .ptr 2 0), (7, ES l), (8, .sl 2 ((twK b.late l i).map PA) (.own 8)), (9, .int i)], [(2, ⟨FKc b, false⟩)], [(8, (twK b.late l i).length)], none⟩) (fun i => i ≤ l.length) (fun i => l.length - i) 0 (by simp) (by simp -failIfUnchanged (disch := first | omega | (simp <;> omega) | fail) only [go_sem, simprocAttr]; simp [twK]) ?_
    intro i hi
    have hi : i ≤ l.length := hi
    have hkl := twK_len b.late l i
    have hkl2 : i * l.length ≤ 25 := by have := Nat.mul_le_mul (show i ≤ 5 by omega) hl5; omega
    simp -failIfUnchanged (disch := first | omega | (simp <;> omega) | fail) only [go_sem, simprocAttr]
    refine wcond_dec (fun h1 => ?_) (fun h1 => ?_)
    · have hil : i < l.length := by omega
      obtain ⟨x, hx⟩ : ∃ x, l[i]?.getD default = x := ⟨_, rfl⟩
      have hvx := hve i hil
      rw [hx] at hvx
      have hks : twK b.late l (i + 1) = twK b.late l i ++ twR b.late l i l.length := rfl
      simp -failIfUnchanged (disch := first | omega | (simp <;> omega) | fail) only [go_sem, simprocAttr, hx]
      refine wp_loop' Nat (fun k => ⟨[(2, .ptr 2 0), (7, ES l), (8, .sl 2 ((twK b.late l i ++ twR b.late l i k).map PA) (.own 8)), (9, .int i), (10, .int k)],
        [(2, ⟨FKc b, false⟩)], [(8, (twK b.late l i ++ twR b.late l i k).length)], none⟩) (fun k => i < k ∧ k ≤ l.length) (fun k => l.length - k) (i + 1) ⟨by omega, by omega⟩ (by rw [twR_0]; simp -failIfUnchanged (disch := first | omega | (simp <;> omega) | fail) only [go_sem, simprocAttr]; simp) ?_
      rintro k ⟨hik, hk⟩
      have hrl := twR_len b.late l i k
      have hal : (twK b.late l i ++ twR b.late l i k).length ≤ 100 := by rw [List.length_append]; omega
      have hrs3 : twK b.late l i ++ twR b.late l i (k + 1) = (twK b.late l i ++ twR b.late l i k) ++ (if twP b.late l i k then [⟨(i : Int), (k : Int)⟩] else []) := by rw [twR_succ, List.append_assoc]
      have hks2 : k = l.length → twK b.late l (i + 1) = twK b.late l i ++ twR b.late l i k := fun e => by subst e; rfl
      generalize twK b.late l i ++ twR b.late l i k = A at hal hrs3 hks2 ⊢
      simp -failIfUnchanged (disch := first | omega | (simp <;> omega) | fail) only [go_sem, simprocAttr]
      refine wcond_dec (fun h2 => ?_) (fun h2 => ?_)
      · have hkl : k < l.length := by omega
        obtain ⟨y, hy⟩ : ∃ y, l[k]?.getD default = y := ⟨_, rfl⟩
        have hvy := hve k hkl
        rw [hy] at hvy
        have hn2 := hvy.c.n
        have k76 := c76 b x y (by rw [both_len hvx.c hvy.c]; exact Nat.le_refl _) (by omega)
        have htp : twP b.late l i k = comB b.late x y := by
          unfold twP
          rw [hx, hy, decide_eq_true hik, Bool.true_and]
        have hrs2 := hrs3
        rw [htp] at hrs2
        simp -failIfUnchanged (disch := first | omega | (simp <;> omega) | fail) only [go_sem, simprocAttr, hx, hy]
        refine wcall k76 ?_
        simp -failIfUnchanged (disch := first | omega | (simp <;> omega) | fail) only [go_sem, simprocAttr]
        cases hcm : comB b.late x y with
        | true =>
          rw [hcm] at hrs2
          simp -failIfUnchanged (disch := first | omega | (simp <;> omega) | fail) only [go_sem, simprocAttr]
          refine ⟨k + 1, ⟨by omega, by omega⟩, by dsimp only; omega, ?_⟩
          dsimp only
          have hln := congrArg List.length hrs2
          simp only [List.length_append, if_true, Bool.false_eq_true, if_false, List.length_cons, List.length_nil] at hln
          rw [hrs2]
          simp -failIfUnchanged (disch := first | omega | (simp <;> omega) | fail) only [go_sem, simprocAttr]
          try simp
          try omega
        | false =>
          rw [hcm] at hrs2
          simp -failIfUnchanged (disch := first | omega | (simp <;> omega) | fail) only [go_sem, simprocAttr]
          refine ⟨k + 1, ⟨by omega, by omega⟩, by dsimp only; omega, ?_⟩
          dsimp only
          have hln := congrArg List.length hrs2
          simp only [List.length_append, if_true, Bool.false_eq_true, if_false, List.length_cons, List.length_nil] at hln
          rw [hrs2]
          simp -failIfUnchanged (disch := first | omega | (simp <;> omega) | fail) only [go_sem, simprocAttr]
          try simp
          try omega
      · have ek : k = l.length := by omega
        simp -failIfUnchanged (disch := first | omega | (simp <;> omega) | fail) only [go_sem, simprocAttr]
        refine ⟨i + 1, by dsimp only; omega, by dsimp only; omega, ?_⟩
        dsimp only
        rw [hks2 ek]
        simp -failIfUnchanged (disch := first | omega | (simp <;> omega) | fail) only [go_sem, simprocAttr]
        try simp
    · have ei : i = l.length := by omega
      subst ei
      simp -failIfUnchanged (disch := first | omega | (simp <;> omega) | fail) only [go_sem, simprocAttr]
      try simp
  · have hd : decide (¬ e = 0) = true := decide_eq_true h0
    simp -failIfUnchanged (disch := first | omega | (simp <;> omega) | fail) only [go_sem, simprocAttr, hd]
    simp [h0]

theorem mus_5 {b : FB} (hv : VF b) : (musL b).length ≤ 5 := Nat.le_trans (List.length_filter_le _ _) (fst_len hv)
theorem aln_5 {b : FB} (hv : VF b) (n : Int) : (alnL b n).length ≤ 5 := Nat.le_trans (alnK_len b n _) (bok_5 hv n)
theorem tw_25 {b : FB} (hv : VF b) (n : Int) : (twK b.late (bokL b n) (bokL b n).length).length ≤ 25 := by
  have h1 := twK_len b.late (bokL b n) (bokL b n).length
  have h2 := bok_5 hv n
  have := Nat.mul_le_mul h2 h2
  omega
theorem c12 (b : FB) (n : Int) : Ctr Try.prog 12 [FK b, .int n] (.bool true) := by
  refine ctr_of_wp hmix Try.func12 m12 rfl ?_
  unfold v12
  simp -failIfUnchanged (disch := first | omega | (simp <;> omega) | fail) only [go_sem, simprocAttr]
  refine wcall (c14 b) ?_
  cases hf : farF b with
  | true =>
    simp -failIfUnchanged (disch := first | omega | (simp <;> omega) | fail) only [go_sem, simprocAttr]
    refine wcall c15 ?_
    simp -failIfUnchanged (disch := first | omega | (simp <;> omega) | fail) only [go_sem, simprocAttr]
  | false =>
    have hs := far_f hf
    have a1 := c43 b hs
    have a2 := c58 b hs
    have a3 := c27 b hs n
    have a4 := c59 b hs n
    have a5 := c60 b hs n
    have a6 := c61 b hs n
    unfold musR at a1 a2
    unfold alnR at a3 a4
    unfold twcR at a5 a6
    have h1 : (if chkB b then musL b else []).length < 4294967296 := by
      split
      · rename_i h; have := mus_5 (vf_of h); omega
      · simp
    have h2 : (if bkE b n = 0 then alnL b n else []).length < 4294967296 := by
      split
      · rename_i h; have := aln_5 (vf_of (pr_0 h).1) n; omega
      · simp
    have h3 : (if bkE b n = 0 then twK b.late (bokL b n) (bokL b n).length else []).length < 4294967296 := by
      split
      · rename_i h; have := tw_25 (vf_of (pr_0 h).1) n; omega
      · simp
    generalize (if chkB b then musL b else []) = A at *
    generalize (if bkE b n = 0 then alnL b n else []) = B at *
    generalize (if bkE b n = 0 then twK b.late (bokL b n) (bokL b n).length else []) = C at *
    have k62 := c62 B B h2
    rw [decide_eq_true rfl] at k62
    simp -failIfUnchanged (disch := first | omega | (simp <;> omega) | fail) only [go_sem, simprocAttr]
    refine wcall (c16 b hs) ?_
    simp -failIfUnchanged (disch := first | omega | (simp <;> omega) | fail) only [go_sem, simprocAttr]
    refine wcall a1 ?_
    simp -failIfUnchanged (disch := first | omega | (simp <;> omega) | fail) only [go_sem, simprocAttr]
    refine wcall a2 ?_
    simp -failIfUnchanged (disch := first | omega | (simp <;> omega) | fail) only [go_sem, simprocAttr]
    refine wcall a3 ?_
    simp -failIfUnchanged (disch := first | omega | (simp <;> omega) | fail) only [go_sem, simprocAttr]
    refine wcall a4 ?_
    simp -failIfUnchanged (disch := first | omega | (simp <;> omega) | fail) only [go_sem, simprocAttr]
    refine wcall a5 ?_
    simp -failIfUnchanged (disch := first | omega | (simp <;> omega) | fail) only [go_sem, simprocAttr]
    refine wcall a6 ?_
    simp -failIfUnchanged (disch := first | omega | (simp <;> omega) | fail) only [go_sem, simprocAttr]
    refine wcall (c54 A h1) ?_
    simp -failIfUnchanged (disch := first | omega | (simp <;> omega) | fail) only [go_sem, simprocAttr, eq_self]
    refine wcall k62 ?_
    simp -failIfUnchanged (disch := first | omega | (simp <;> omega) | fail) only [go_sem, simprocAttr, eq_self]
    refine wcall (c54 C h3) ?_
    simp -failIfUnchanged (disch := first | omega | (simp <;> omega) | fail) only [go_sem, simprocAttr, eq_self]
    refine wcall (c21 b hs) ?_
    simp -failIfUnchanged (disch := first | omega | (simp <;> omega) | fail) only [go_sem, simprocAttr]
    refine wcall c15 ?_
    simp -failIfUnchanged (disch := first | omega | (simp <;> omega) | fail) only [go_sem, simprocAttr]

end Go.Proofs.Ytemnojaoickjfaa
