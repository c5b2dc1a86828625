/- Merged by program: T21. -/
import Derived.Test.YtbghdcleoamkiaaM4
/- MouthsParadox; Exact and Served; MouthsExact. -/
set_option linter.unusedSimpArgs false
set_option linter.unusedVariables false
set_option linter.unnecessarySimpa false
namespace Go.Proofs.Ytbghdcleoamkiaa
open Go Go.V

theorem c45 (b : Bx) (f : Int) : Ctr Try.prog 45 [MB b, .int f] (exaR b f) := by
  refine ctr_of_wp hmix Try.func45 m45 rfl ?_
  unfold v45 exaR
  simp -failIfUnchanged (disch := first | omega | (simp <;> omega) | fail) only [go_sem, simprocAttr]
  refine wcall (c58 f) ?_
  simp -failIfUnchanged (disch := first | omega | (simp <;> omega) | fail) only [go_sem, simprocAttr]
  refine wcall (c65 b _) ?_
  simp -failIfUnchanged (disch := first | omega | (simp <;> omega) | fail) only [go_sem, simprocAttr]
  refine wcond_dec (fun h => ?_) (fun h => ?_)
  · simp -failIfUnchanged (disch := first | omega | (simp <;> omega) | fail) only [go_sem, simprocAttr]
    simp [h]
  · have h' : askB b (within f 0 40) = 0 := by simpa using h
    obtain ⟨h1, h2⟩ := askB_0.1 h'
    rw [within_iff] at h2
    have hv := val_of_check h1
    have ha := sum_nonneg hv
    have n5 := hv.n5
    obtain ⟨k1, k2⟩ := shares_mem hv
    obtain ⟨n, rfl⟩ : ∃ n : Nat, f = n := ⟨f.toNat, by omega⟩
    simp -failIfUnchanged (disch := first | omega | (simp <;> omega) | fail) only [go_sem, simprocAttr]
    refine wp_loop' Nat (fun i => ⟨[(1, .int n), (2, .ptr 2 0), (7, .sl 2 ((exL b n i).map PR) (.own 7)), (8, .int i)], [(2, ⟨[IS b.sh, IS b.mo], false⟩)], [(7, i)], none⟩) (fun i => i ≤ b.sh.length) (fun i => b.sh.length - i) 0 (by simp) (by simp -failIfUnchanged (disch := first | omega | (simp <;> omega) | fail) only [go_sem, simprocAttr]; try simp [exL]) ?_
    intro i hi
    have hi : i ≤ b.sh.length := hi
    have hel : (exL b n i).length = i := by simp [exL]
    simp -failIfUnchanged (disch := first | omega | (simp <;> omega) | fail) only [go_sem, simprocAttr]
    refine wcond_dec (fun hc => ?_) (fun hc => ?_)
    · have hlt : i < b.sh.length := by omega
      have hs := hv.s0 i hlt
      have hm := mul_bd (f := n) (by omega) hs
      have hm2 : 0 ≤ (n : Int) * (b.sh[i]?.getD default) ∧ (n : Int) * (b.sh[i]?.getD default) ≤ 820 := hm
      obtain ⟨s, hse⟩ : ∃ s : Nat, at0 b.sh i = s := ⟨(at0 b.sh i).toNat, by omega⟩
      obtain ⟨D, hD⟩ : ∃ D : Nat, max 1 (allS b) = D := ⟨(max 1 (allS b)).toNat, by omega⟩
      have hx : exR b n i = low (n * s) D := by unfold exR; rw [hse, hD]; rfl
      have c40' := c40 (n * s) D (by omega) (by rw [hse] at hm; have := hm.2; rw [← Int.natCast_mul] at this; omega) (by omega)
      rw [← hx] at c40'
      have e1 : (n : Int) * (b.sh[i]?.getD default) = ((n * s : Nat) : Int) := by
        rw [Int.natCast_mul, ← hse]
      simp -failIfUnchanged (disch := first | omega | (simp <;> omega) | fail) only [go_sem, simprocAttr]
      refine wcall (c31 b.sh k1 k2) ?_
      rw [show sumI b.sh = allS b from rfl]
      simp -failIfUnchanged (disch := first | omega | (simp <;> omega) | fail) only [go_sem, simprocAttr, hD, e1]
      refine wcall c40' ?_
      simp -failIfUnchanged (disch := first | omega | (simp <;> omega) | fail) only [go_sem, simprocAttr, hel]
      refine ⟨i + 1, by dsimp only; omega, by dsimp only; omega, ?_⟩
      dsimp only
      rw [exL_succ]
      simp -failIfUnchanged (disch := first | omega | (simp <;> omega) | fail) only [go_sem, simprocAttr]
      simp [hel]
    · have e : i = b.sh.length := by omega
      subst e
      simp -failIfUnchanged (disch := first | omega | (simp <;> omega) | fail) only [go_sem, simprocAttr]
      simp [h']

/-! ### who is served the worst -/
def srv1 (b : Bx) (h : List Int) (best : Int) (i : Nat) : Int := if 0 < at0 b.sh i ∧ (best < 0 ∨ at0 h i * at0 b.sh best.toNat < at0 h best.toNat * at0 b.sh i) then i else best
def srvF (b : Bx) (h : List Int) (k : Nat) : Int := (List.range k).foldl (srv1 b h) (-1)

theorem srvF_succ (b : Bx) (h : List Int) (k : Nat) : srvF b h (k + 1) = srv1 b h (srvF b h k) k := by
  unfold srvF
  rw [List.range_succ, List.foldl_append]
  rfl

theorem srvF_lt (b : Bx) (h : List Int) : ∀ k, srvF b h k = -1 ∨ ∃ r : Nat, srvF b h k = r ∧ r < k
  | 0 => .inl rfl
  | k + 1 => by
    rw [srvF_succ]
    unfold srv1
    split
    · exact .inr ⟨k, rfl, by omega⟩
    · rcases srvF_lt b h k with e | ⟨r, e, hr⟩
      · exact .inl e
      · exact .inr ⟨r, e, by omega⟩

def srvR (b : Bx) (f : Int) : AV :=
  if askB b (within f 0 40) = 0 then (if srvF b (hasL b f.toNat) b.sh.length < 0 then .tup [.int 0, .int 3] else .tup [.int (srvF b (hasL b f.toNat) b.sh.length), .int 0]) else .tup [.int 0, .int (askB b (within f 0 40))]

theorem prod_bd2 {s h : Int} (h1 : 0 ≤ s ∧ s ≤ 20) (h2 : 0 ≤ h ∧ h ≤ 20) : 0 ≤ h * s ∧ h * s ≤ 400 := by
  have a := Int.mul_nonneg h2.1 h1.1
  have b : h * s ≤ 20 * s := Int.mul_le_mul_of_nonneg_right h2.2 h1.1
  omega

theorem c48 (b : Bx) (f : Int) : Ctr Try.prog 48 [MB b, .int f] (srvR b f) := by
  refine ctr_of_wp hmix Try.func48 m48 rfl ?_
  unfold v48 srvR
  simp -failIfUnchanged (disch := first | omega | (simp <;> omega) | fail) only [go_sem, simprocAttr]
  refine wcall (c58 f) ?_
  simp -failIfUnchanged (disch := first | omega | (simp <;> omega) | fail) only [go_sem, simprocAttr]
  refine wcall (c65 b _) ?_
  simp -failIfUnchanged (disch := first | omega | (simp <;> omega) | fail) only [go_sem, simprocAttr]
  refine wcond_dec (fun h => ?_) (fun h => ?_)
  · simp -failIfUnchanged (disch := first | omega | (simp <;> omega) | fail) only [go_sem, simprocAttr]
    simp [h]
  · have h' : askB b (within f 0 40) = 0 := by simpa using h
    obtain ⟨h1, h2⟩ := askB_0.1 h'
    rw [within_iff] at h2
    have hv := val_of_check h1
    have n5 := hv.n5
    obtain ⟨n, rfl⟩ : ∃ n : Nat, f = n := ⟨f.toNat, by omega⟩
    have hl := hasL_len hv n
    have hb := fun j => at0_has hv n j
    have a1 := c66 b hv n (by omega)
    rw [if_pos h', Int.toNat_natCast]
    obtain ⟨h, hhe⟩ : ∃ h, hasL b n = h := ⟨_, rfl⟩
    rw [hhe] at hl hb a1 ⊢
    simp -failIfUnchanged (disch := first | omega | (simp <;> omega) | fail) only [go_sem, simprocAttr]
    refine wcall a1 ?_
    simp -failIfUnchanged (disch := first | omega | (simp <;> omega) | fail) only [go_sem, simprocAttr]
    refine wp_loop' Nat (fun i => ⟨[(2, .ptr 2 0), (7, IS h), (8, .int (srvF b h i)), (9, .int i)], [(2, ⟨[IS b.sh, IS b.mo], false⟩)], [], none⟩) (fun i => i ≤ b.sh.length) (fun i => b.sh.length - i) 0 (by simp) (by simp -failIfUnchanged (disch := first | omega | (simp <;> omega) | fail) only [go_sem, simprocAttr]; simp [srvF]) ?_
    intro i hi
    have hi : i ≤ b.sh.length := hi
    simp -failIfUnchanged (disch := first | omega | (simp <;> omega) | fail) only [go_sem, simprocAttr]
    refine wcond_dec (fun hc => ?_) (fun hc => ?_)
    · have hlt : i < b.sh.length := by omega
      have hs0 := hv.s0 i hlt
      have hh0 := hb i
      have hsucc := srvF_succ b h i
      unfold srv1 at hsucc
      simp -failIfUnchanged (disch := first | omega | (simp <;> omega) | fail) only [go_sem, simprocAttr]
      refine WGd_bool (fun h3 => ?_) (fun h3 => ?_)
      · have h3' : 0 < at0 b.sh i := of_decide_eq_true h3
        simp -failIfUnchanged (disch := first | omega | (simp <;> omega) | fail) only [go_sem, simprocAttr, h3]
        rcases srvF_lt b h i with e | ⟨r, e, hr⟩
        · rw [e, if_pos ⟨h3', .inl (by omega)⟩] at hsucc
          rw [e]
          simp -failIfUnchanged (disch := first | omega | (simp <;> omega) | fail) only [go_sem, simprocAttr]
          refine ⟨i + 1, by dsimp only; omega, by dsimp only; omega, ?_⟩
          dsimp only
          rw [hsucc]
          simp -failIfUnchanged (disch := first | omega | (simp <;> omega) | fail) only [go_sem, simprocAttr]
          try simp
        · have hsr := hv.s0 r (by omega)
          have hhr := hb r
          have p1 := prod_bd2 hsr hh0
          have p2 := prod_bd2 hs0 hhr
          rw [e, Int.toNat_natCast] at hsucc
          rw [e]
          have hr0 : decide ((r : Int) < 0) = false := decide_eq_false (by omega)
          have w1 : w64 (at0 h i * at0 b.sh r) = at0 h i * at0 b.sh r := w64_id (by omega)
          have w2 : w64 (at0 h r * at0 b.sh i) = at0 h r * at0 b.sh i := w64_id (by omega)
          have c33' := c33 (at0 h i) (at0 b.sh i) (at0 h r) (at0 b.sh r)
          rw [w1, w2] at c33'
          simp -failIfUnchanged (disch := first | omega | (simp <;> omega) | fail) only [go_sem, simprocAttr, hr0]
          refine wcall c33' ?_
          by_cases h6 : at0 h i * at0 b.sh r < at0 h r * at0 b.sh i
          · rw [if_pos ⟨h3', .inr h6⟩] at hsucc
            simp -failIfUnchanged (disch := first | omega | (simp <;> omega) | fail) only [go_sem, simprocAttr, h6]
            refine ⟨i + 1, by dsimp only; omega, by dsimp only; omega, ?_⟩
            dsimp only
            rw [hsucc]
            simp -failIfUnchanged (disch := first | omega | (simp <;> omega) | fail) only [go_sem, simprocAttr]
            try simp
          · rw [if_neg (fun h => h.2.elim (fun h => by omega) h6)] at hsucc
            simp -failIfUnchanged (disch := first | omega | (simp <;> omega) | fail) only [go_sem, simprocAttr, h6]
            refine ⟨i + 1, by dsimp only; omega, by dsimp only; omega, ?_⟩
            dsimp only
            rw [hsucc]
            simp -failIfUnchanged (disch := first | omega | (simp <;> omega) | fail) only [go_sem, simprocAttr]
            try simp
      · have h3' : ¬ 0 < at0 b.sh i := of_decide_eq_false h3
        rw [if_neg (fun h => h3' h.1)] at hsucc
        simp -failIfUnchanged (disch := first | omega | (simp <;> omega) | fail) only [go_sem, simprocAttr, h3]
        refine ⟨i + 1, by dsimp only; omega, by dsimp only; omega, ?_⟩
        dsimp only
        rw [hsucc]
        simp -failIfUnchanged (disch := first | omega | (simp <;> omega) | fail) only [go_sem, simprocAttr]
        try simp
    · have e : i = b.sh.length := by omega
      subst e
      rcases srvF_lt b h b.sh.length with e | ⟨r, e, hr⟩
      · rw [e]
        simp -failIfUnchanged (disch := first | omega | (simp <;> omega) | fail) only [go_sem, simprocAttr]
        try simp
      · rw [e, if_neg (by omega)]
        have hr0 : ¬ (r : Int) < 0 := by omega
        simp -failIfUnchanged (disch := first | omega | (simp <;> omega) | fail) only [go_sem, simprocAttr, hr0]

theorem c47 (b : Bx) (f : Int) : Ctr Try.prog 47 [MB b, .int f] (srvR b f) := by
  refine ctr_of_wp hmix Try.func47 m47 rfl ?_
  unfold v47 srvR
  have g1 := c20 b f
  unfold gauR at g1
  dsimp only at g1
  by_cases h' : askB b (within f 0 40) = 0
  · obtain ⟨h1, h2⟩ := askB_0.1 h'
    rw [within_iff] at h2
    have hv := val_of_check h1
    have n5 := hv.n5
    obtain ⟨n, rfl⟩ : ∃ n : Nat, f = n := ⟨f.toNat, by omega⟩
    have hl := hasL_len hv n
    have hb := fun j => at0_has hv n j
    rw [if_pos h', Int.toNat_natCast, h'] at g1
    rw [if_pos h', Int.toNat_natCast]
    obtain ⟨h, hhe⟩ : ∃ h, hasL b n = h := ⟨_, rfl⟩
    rw [hhe] at hl hb g1 ⊢
    simp -failIfUnchanged (disch := first | omega | (simp <;> omega) | fail) only [go_sem, simprocAttr]
    refine wcall g1 ?_
    simp -failIfUnchanged (disch := first | omega | (simp <;> omega) | fail) only [go_sem, simprocAttr]
    refine wp_loop' Nat (fun i => ⟨[(2, .ptr 2 0), (6, IS h), (8, .int (srvF b h i)), (20, IS h), (21, .int h.length), (22, .int i)], [(2, ⟨[IS b.sh, IS b.mo], false⟩)], [], none⟩) (fun i => i ≤ b.sh.length) (fun i => b.sh.length - i) 0 (by simp) (by simp -failIfUnchanged (disch := first | omega | (simp <;> omega) | fail) only [go_sem, simprocAttr]; simp [srvF]) ?_
    intro i hi
    have hi : i ≤ b.sh.length := hi
    simp -failIfUnchanged (disch := first | omega | (simp <;> omega) | fail) only [go_sem, simprocAttr]
    refine wcond_dec (fun hc => ?_) (fun hc => ?_)
    · have hlt : i < b.sh.length := by omega
      have hs0 := hv.s0 i hlt
      have hh0 := hb i
      have hsucc := srvF_succ b h i
      unfold srv1 at hsucc
      simp -failIfUnchanged (disch := first | omega | (simp <;> omega) | fail) only [go_sem, simprocAttr]
      refine WGd_bool (fun h3 => ?_) (fun h3 => ?_)
      · have h3' : 0 < at0 b.sh i := of_decide_eq_true h3
        simp -failIfUnchanged (disch := first | omega | (simp <;> omega) | fail) only [go_sem, simprocAttr, h3]
        rcases srvF_lt b h i with e | ⟨r, e, hr⟩
        · rw [e, if_pos ⟨h3', .inl (by omega)⟩] at hsucc
          rw [e]
          simp -failIfUnchanged (disch := first | omega | (simp <;> omega) | fail) only [go_sem, simprocAttr]
          refine ⟨i + 1, by dsimp only; omega, by dsimp only; omega, ?_⟩
          dsimp only
          rw [hsucc]
          simp -failIfUnchanged (disch := first | omega | (simp <;> omega) | fail) only [go_sem, simprocAttr]
          try simp
        · have hsr := hv.s0 r (by omega)
          have hhr := hb r
          have p1 := prod_bd2 hsr hh0
          have p2 := prod_bd2 hs0 hhr
          have p1' : 0 ≤ h[i]?.getD default * (b.sh[r]?.getD default) ∧ h[i]?.getD default * (b.sh[r]?.getD default) ≤ 400 := p1
          have p2' : 0 ≤ h[r]?.getD default * (b.sh[i]?.getD default) ∧ h[r]?.getD default * (b.sh[i]?.getD default) ≤ 400 := p2
          rw [e, Int.toNat_natCast] at hsucc
          rw [e]
          have hr0 : decide ((r : Int) < 0) = false := decide_eq_false (by omega)
          simp -failIfUnchanged (disch := first | omega | (simp <;> omega) | fail) only [go_sem, simprocAttr, hr0]
          by_cases h6 : h[i]?.getD default * (b.sh[r]?.getD default) < h[r]?.getD default * (b.sh[i]?.getD default)
          · rw [if_pos ⟨h3', .inr h6⟩] at hsucc
            simp -failIfUnchanged (disch := first | omega | (simp <;> omega) | fail) only [go_sem, simprocAttr, h6]
            refine ⟨i + 1, by dsimp only; omega, by dsimp only; omega, ?_⟩
            dsimp only
            rw [hsucc]
            simp -failIfUnchanged (disch := first | omega | (simp <;> omega) | fail) only [go_sem, simprocAttr]
            try simp
          · rw [if_neg (fun h => h.2.elim (fun h => by omega) h6)] at hsucc
            simp -failIfUnchanged (disch := first | omega | (simp <;> omega) | fail) only [go_sem, simprocAttr, h6]
            refine ⟨i + 1, by dsimp only; omega, by dsimp only; omega, ?_⟩
            dsimp only
            rw [hsucc]
            simp -failIfUnchanged (disch := first | omega | (simp <;> omega) | fail) only [go_sem, simprocAttr]
            try simp
      · have h3' : ¬ 0 < at0 b.sh i := of_decide_eq_false h3
        rw [if_neg (fun h => h3' h.1)] at hsucc
        simp -failIfUnchanged (disch := first | omega | (simp <;> omega) | fail) only [go_sem, simprocAttr, h3]
        refine ⟨i + 1, by dsimp only; omega, by dsimp only; omega, ?_⟩
        dsimp only
        rw [hsucc]
        simp -failIfUnchanged (disch := first | omega | (simp <;> omega) | fail) only [go_sem, simprocAttr]
        try simp
    · have e : i = b.sh.length := by omega
      subst e
      rcases srvF_lt b h b.sh.length with e | ⟨r, e, hr⟩
      · rw [e]
        simp -failIfUnchanged (disch := first | omega | (simp <;> omega) | fail) only [go_sem, simprocAttr]
        try simp
      · rw [e, if_neg (by omega)]
        have hr0 : ¬ (r : Int) < 0 := by omega
        simp -failIfUnchanged (disch := first | omega | (simp <;> omega) | fail) only [go_sem, simprocAttr, hr0]
  · rw [if_neg h'] at g1
    rw [if_neg h']
    simp -failIfUnchanged (disch := first | omega | (simp <;> omega) | fail) only [go_sem, simprocAttr]
    refine wcall g1 ?_
    simp -failIfUnchanged (disch := first | omega | (simp <;> omega) | fail) only [go_sem, simprocAttr, h']

theorem rem_ex (b : Bx) (f : Int) : ∃ (l : List Int) (e : Int), remR b f = .tup [IS l, .int e] ∧ l.length < 100 := by
  unfold remR
  refine ⟨_, _, rfl, ?_⟩
  split
  · rename_i h
    have hv := val_of_check (askB_0.1 h).1
    have := remL_len b f
    have := hv.n5
    omega
  · simp
theorem exa_ex (b : Bx) (f : Int) : ∃ (l : List Pr) (e : Int), exaR b f = .tup [PS l, .int e] ∧ l.length < 100 := by
  unfold exaR
  refine ⟨_, _, rfl, ?_⟩
  split
  · rename_i h
    have hv := val_of_check (askB_0.1 h).1
    have := hv.n5
    simp [exL]
    omega
  · simp
theorem srv_ex (b : Bx) (f : Int) : ∃ (l : Int) (e : Int), srvR b f = .tup [.int l, .int e] := by
  unfold srvR
  split
  · split <;> exact ⟨_, _, rfl⟩
  · exact ⟨_, _, rfl⟩

theorem c12 (b : Bx) (f : Int) : Ctr Try.prog 12 [MB b, .int f] (.bool true) := by
  refine ctr_of_wp hmix Try.func12 m12 rfl ?_
  unfold v12
  simp -failIfUnchanged (disch := first | omega | (simp <;> omega) | fail) only [go_sem, simprocAttr]
  refine wcall (c15 b) ?_
  cases hf : farB b with
  | true =>
    simp -failIfUnchanged (disch := first | omega | (simp <;> omega) | fail) only [go_sem, simprocAttr]
    refine wcall c16 ?_
    simp -failIfUnchanged (disch := first | omega | (simp <;> omega) | fail) only [go_sem, simprocAttr]
  | false =>
    obtain ⟨h1, h2⟩ := far_false hf
    obtain ⟨l, e, hl, hll⟩ := exa_ex b f
    obtain ⟨m, e2, hm, hml⟩ := rem_ex b f
    obtain ⟨n, e3, hn⟩ := srv_ex b f
    have a1 := c39 b f
    have a2 := c45 b f
    have a3 := c34 b f
    have a4 := c46 b f
    have a5 := c47 b f
    have a6 := c48 b f
    rw [hl] at a1 a2
    rw [hm] at a3 a4
    rw [hn] at a5 a6
    simp -failIfUnchanged (disch := first | omega | (simp <;> omega) | fail) only [go_sem, simprocAttr]
    refine wcall (c17 b (by omega) (by omega)) ?_
    simp -failIfUnchanged (disch := first | omega | (simp <;> omega) | fail) only [go_sem, simprocAttr]
    refine wcall a1 ?_
    simp -failIfUnchanged (disch := first | omega | (simp <;> omega) | fail) only [go_sem, simprocAttr]
    refine wcall a2 ?_
    simp -failIfUnchanged (disch := first | omega | (simp <;> omega) | fail) only [go_sem, simprocAttr]
    refine wcall a3 ?_
    simp -failIfUnchanged (disch := first | omega | (simp <;> omega) | fail) only [go_sem, simprocAttr]
    refine wcall a4 ?_
    simp -failIfUnchanged (disch := first | omega | (simp <;> omega) | fail) only [go_sem, simprocAttr]
    refine wcall a5 ?_
    simp -failIfUnchanged (disch := first | omega | (simp <;> omega) | fail) only [go_sem, simprocAttr]
    refine wcall a6 ?_
    simp -failIfUnchanged (disch := first | omega | (simp <;> omega) | fail) only [go_sem, simprocAttr]
    refine wcall (c49 l l (by omega)) ?_
    simp -failIfUnchanged (disch := first | omega | (simp <;> omega) | fail) only [go_sem, simprocAttr, eq_self]
    refine wcall (c26 m m (by omega)) ?_
    simp -failIfUnchanged (disch := first | omega | (simp <;> omega) | fail) only [go_sem, simprocAttr, eq_self]
    refine wcall (c27 b b (by omega) (by omega)) ?_
    simp -failIfUnchanged (disch := first | omega | (simp <;> omega) | fail) only [go_sem, simprocAttr, eq_self]
    refine wcall c16 ?_
    simp -failIfUnchanged (disch := first | omega | (simp <;> omega) | fail) only [go_sem, simprocAttr]

end Go.Proofs.Ytbghdcleoamkiaa
