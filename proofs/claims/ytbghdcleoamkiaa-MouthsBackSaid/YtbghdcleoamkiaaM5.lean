/- Merged by program: T17, T18, T19, T20, T21, T22, T23, T24. -/
import Derived.Test.YtbghdcleoamkiaaM4
/- MouthsShares. -/
set_option linter.unusedSimpArgs false
set_option linter.unusedVariables false
set_option linter.unnecessarySimpa false
namespace Go.Proofs.Ytbghdcleoamkiaa
open Go Go.V

def twI (b : Bx) (i : Nat) : List Int := (List.range b.sh.length).map fun j => if j < i then 2 * at0 b.sh j else at0 b.sh j

theorem twI_0 (b : Bx) : twI b 0 = b.sh := by
  unfold twI
  simp only [Nat.not_lt_zero, if_false]
  exact list_rmap b.sh
theorem twI_len (b : Bx) (i : Nat) : (twI b i).length = b.sh.length := by simp [twI]
theorem twI_at (b : Bx) (i : Nat) (hi : i < b.sh.length) : at0 (twI b i) i = at0 b.sh i := by
  unfold twI
  rw [at0_rmap _ hi, if_neg (Nat.lt_irrefl i)]
theorem twI_set (b : Bx) (i : Nat) (hi : i < b.sh.length) : (twI b i).set i (at0 b.sh i * 2) = twI b (i + 1) := by
  apply List.ext_getElem (by simp [twI])
  intro j h1 h2
  simp only [twI, List.length_map, List.length_range] at h2
  rw [List.getElem_set]
  by_cases e : i = j
  · subst e
    simp [twI]
    omega
  · rw [if_neg e]
    simp only [twI, List.getElem_map, List.getElem_range]
    by_cases h3 : j < i
    · rw [if_pos h3, if_pos (by omega)]
    · rw [if_neg h3, if_neg (by omega)]

def twB (b : Bx) : Bx := ⟨twI b b.sh.length, b.mo⟩

theorem twB_at (b : Bx) (i : Nat) : at0 (twB b).sh i = 2 * at0 b.sh i := by
  show at0 (twI b b.sh.length) i = _
  rcases Nat.lt_or_ge i b.sh.length with h | h
  · unfold twI
    rw [at0_rmap _ h, if_pos h]
  · have e1 : at0 b.sh i = 0 := by simp only [at0, List.getElem?_eq_none h]; rfl
    have e2 : at0 (twI b b.sh.length) i = 0 := by simp only [at0, List.getElem?_eq_none (show (twI b b.sh.length).length ≤ i by rw [twI_len]; exact h)]; rfl
    rw [e1, e2]; rfl

theorem mre_shared (b : Bx) (hv : BV b) (Q : Nat) (g : Int) (hQ : Q < b.sh.length) (hg : at0 b.sh Q ≤ g) : Mre b (sharedB b Q g) Q := by
  refine ⟨hQ, by simp [sharedB], ?_, Int.le_refl _, fun i hi => ?_, fun i _ => rfl⟩
  · show at0 b.sh Q ≤ at0 (b.sh.set Q g) Q
    rw [at0_set hQ, if_pos rfl]
    exact hg
  · show at0 (b.sh.set Q g) i = at0 b.sh i
    rw [at0_set hQ, if_neg (by omega)]

theorem c6 (b : Bx) (f q fl o g : Int) : Ctr Try.prog 6 [MB b, .int f, .agg [.int q, .int fl, .int o, .int g]] (.bool true) := by
  refine ctr_of_wp hmix Try.func6 m6g rfl ?_
  unfold v6g
  simp -failIfUnchanged (disch := first | omega | (simp <;> omega) | fail) only [go_sem, simprocAttr]
  refine wcall (c28 b f) ?_
  cases hr : (checkB b && within f 0 40) with
  | false =>
    simp -failIfUnchanged (disch := first | omega | (simp <;> omega) | fail) only [go_sem, simprocAttr]
    refine wcall c16 ?_
    simp -failIfUnchanged (disch := first | omega | (simp <;> omega) | fail) only [go_sem, simprocAttr]
  | true =>
    obtain ⟨hv, n, rfl, hn⟩ := ready_iff hr
    have n5 := hv.n5
    have hml := hv.len
    simp -failIfUnchanged (disch := first | omega | (simp <;> omega) | fail) only [go_sem, simprocAttr]
    refine wcall (c32 b q) ?_
    cases hq : within q 0 (w64 ((b.sh.length : Int) - 1)) with
    | false =>
      simp -failIfUnchanged (disch := first | omega | (simp <;> omega) | fail) only [go_sem, simprocAttr]
      refine wcall c16 ?_
      simp -failIfUnchanged (disch := first | omega | (simp <;> omega) | fail) only [go_sem, simprocAttr]
    | true =>
      obtain ⟨Q, rfl, hQ⟩ := quarter_iff hv hq
      have hl := hasL_len hv n
      have hrl := remL_len b n
      have a1 := c29 b hv n hn
      have b1 := c34 b n
      rw [remR_ok hv hn] at b1
      have t1 := has_twice (b := b) (b' := twB b) (twI_len _ _) (fun _ => rfl) (twB_at b) n
      have t2 := rem_twice (b := b) (b' := twB b) (twI_len _ _) (twB_at b) n
      obtain ⟨h, hhe⟩ : ∃ h, hasL b n = h := ⟨_, rfl⟩
      rw [hhe] at hl a1 t1
      obtain ⟨r, hre⟩ : ∃ r, remL b n = r := ⟨_, rfl⟩
      rw [hre] at hrl b1 t2
      simp -failIfUnchanged (disch := first | omega | (simp <;> omega) | fail) only [go_sem, simprocAttr]
      refine wcall a1 ?_
      simp -failIfUnchanged (disch := first | omega | (simp <;> omega) | fail) only [go_sem, simprocAttr]
      refine wcall b1 ?_
      simp -failIfUnchanged (disch := first | omega | (simp <;> omega) | fail) only [go_sem, simprocAttr]
      refine wcall_in hmix Try.func17 m17g rfl ?_
      unfold v17g
      simp -failIfUnchanged (disch := first | omega | (simp <;> omega) | fail) only [go_sem, simprocAttr]
      refine wp_loop' Nat (fun i => ⟨[(1, .int n), (3, .ptr 3 0), (5, .ptr 5 0), (7, IS h), (9, IS r), (11, .ptr 11 0), (12, .int i)],
        [(11, ⟨[.gsl 1 0 0 1 b.sh.length false, .gsl 2 0 0 1 b.mo.length false], false⟩), (K 2 0 0, ⟨b.mo.map .int, false⟩), (K 1 0 0, ⟨(twI b i).map .int, false⟩), (5, ⟨[.int (Q : Nat), .int fl, .int o, .int g], false⟩), (3, ⟨[IS b.sh, IS b.mo], false⟩)], [], none⟩) (fun i => i ≤ b.sh.length) (fun i => b.sh.length - i) 0 (by simp) (by simp -failIfUnchanged (disch := first | omega | (simp <;> omega) | fail) only [go_sem, simprocAttr]; simp [twI_0]) ?_
      intro i hi
      have hi : i ≤ b.sh.length := hi
      have hwl := twI_len b i
      simp -failIfUnchanged (disch := first | omega | (simp <;> omega) | fail) only [go_sem, simprocAttr]
      refine wcond_dec (fun hc => ?_) (fun hc => ?_)
      · have hlt : i < b.sh.length := by omega
        have hta : (twI b i)[i]?.getD default = at0 b.sh i := twI_at b i hlt
        have hsi : 0 ≤ at0 b.sh i ∧ at0 b.sh i ≤ 20 := hv.s0 i hlt
        simp -failIfUnchanged (disch := first | omega | (simp <;> omega) | fail) only [go_sem, simprocAttr, hta]
        refine ⟨i + 1, by dsimp only; omega, by dsimp only; omega, ?_⟩
        dsimp only
        rw [← twI_set b i hlt]
        simp -failIfUnchanged (disch := first | omega | (simp <;> omega) | fail) only [go_sem, simprocAttr]
        try simp
      · have e : i = b.sh.length := by omega
        subst e
        have c19' : Ctr Try.prog 19 [.agg [IS (twI b b.sh.length), IS b.mo]] (.int (errM (twB b))) := c19 (twB b)
        simp -failIfUnchanged (disch := first | omega | (simp <;> omega) | fail) only [go_sem, simprocAttr]
        refine wopsN [K 1 0 0, K 2 0 0] ?_
        simp -failIfUnchanged (disch := first | omega | (simp <;> omega) | fail) only [go_sem, simprocAttr, chunks_ints, Nat.le_refl, hwl]
        refine wcall c19' ?_
        unfold errM
        cases hct : checkB (twB b) with
        | false =>
          simp -failIfUnchanged (disch := first | omega | (simp <;> omega) | fail) only [go_sem, simprocAttr]
          refine wcall (c35 _ _ _) ?_
          cases hw : within g (b.sh[Q]?.getD default) 20 with
          | false =>
            simp -failIfUnchanged (disch := first | omega | (simp <;> omega) | fail) only [go_sem, simprocAttr]
            refine wcall c16 ?_
            simp -failIfUnchanged (disch := first | omega | (simp <;> omega) | fail) only [go_sem, simprocAttr]
          | true =>
            have hw2 : at0 b.sh Q ≤ g ∧ g ≤ 20 := within_iff.1 hw
            have hsq := hv.s0 Q hQ
            have hv1 := shared_val hv Q (s := g) (by omega)
            have k36 := c36 b hv Q g hQ
            have hm := mre_shared b hv Q g hQ hw2.1
            have m1 := more_own hv hv1 hm n
            have m2 := fun {i} (hi : i < b.sh.length) (hne : i ≠ Q) => more_other hv hv1 hm n hi hne
            have hlw : (sharedB b Q g).sh.length = b.sh.length := by simp [sharedB]
            have hl1 := hasL_len hv1 n
            rw [hlw] at hl1
            have a2 := c29 _ hv1 n hn
            rw [hhe] at m1
            rw [hhe] at m2
            generalize sharedB b Q g = W at *
            generalize hasL W n = k at *
            have e1 : decide (k[Q]?.getD default < h[Q]?.getD default) = false := decide_eq_false (by show ¬ at0 k Q < at0 h Q; omega)
            simp -failIfUnchanged (disch := first | omega | (simp <;> omega) | fail) only [go_sem, simprocAttr]
            refine wcall k36 ?_
            simp -failIfUnchanged (disch := first | omega | (simp <;> omega) | fail) only [go_sem, simprocAttr]
            refine wcall a2 ?_
            simp -failIfUnchanged (disch := first | omega | (simp <;> omega) | fail) only [go_sem, simprocAttr, e1]
            refine wp_loop' Nat (fun i => ⟨[(5, .ptr 5 0), (7, IS h), (17, IS k), (19, .int i)], [(5, ⟨[.int (Q : Nat), .int fl, .int o, .int g], false⟩)], [], none⟩) (fun i => i ≤ b.sh.length) (fun i => b.sh.length - i) 0 (by simp) (by simp -failIfUnchanged (disch := first | omega | (simp <;> omega) | fail) only [go_sem, simprocAttr]; try simp) ?_
            intro i hi
            have hi : i ≤ b.sh.length := hi
            simp -failIfUnchanged (disch := first | omega | (simp <;> omega) | fail) only [go_sem, simprocAttr]
            refine wcond_dec (fun hc => ?_) (fun hc => ?_)
            · have hlt : i < b.sh.length := by omega
              simp -failIfUnchanged (disch := first | omega | (simp <;> omega) | fail) only [go_sem, simprocAttr]
              refine WGd_bool (fun h3 => ?_) (fun h3 => ?_)
              · have h3' : ¬ (i : Int) = Q := by simpa using h3
                have e2 : decide (h[i]?.getD default < k[i]?.getD default) = false := decide_eq_false (by
                  have := m2 hlt (show i ≠ Q by omega)
                  show ¬ at0 h i < at0 k i
                  omega)
                simp -failIfUnchanged (disch := first | omega | (simp <;> omega) | fail) only [go_sem, simprocAttr, h3, e2]
                refine ⟨i + 1, by dsimp only; omega, by dsimp only; omega, ?_⟩
                simp -failIfUnchanged (disch := first | omega | (simp <;> omega) | fail) only [go_sem, simprocAttr]
                try simp
              · simp -failIfUnchanged (disch := first | omega | (simp <;> omega) | fail) only [go_sem, simprocAttr, h3]
                refine ⟨i + 1, by dsimp only; omega, by dsimp only; omega, ?_⟩
                simp -failIfUnchanged (disch := first | omega | (simp <;> omega) | fail) only [go_sem, simprocAttr]
                try simp
            · simp -failIfUnchanged (disch := first | omega | (simp <;> omega) | fail) only [go_sem, simprocAttr]
              refine wcall c16 ?_
              simp -failIfUnchanged (disch := first | omega | (simp <;> omega) | fail) only [go_sem, simprocAttr]
        | true =>
          have hvt := val_of_check hct
          have a3 : Ctr Try.prog 29 [.agg [IS (twI b b.sh.length), IS b.mo], .int n] (.tup [IS (hasL (twB b) n), .bool true]) := c29 (twB b) hvt n hn
          have b3 : Ctr Try.prog 34 [.agg [IS (twI b b.sh.length), IS b.mo], .int n] (remR (twB b) n) := c34 (twB b) n
          rw [remR_ok hvt hn, t2] at b3
          rw [t1] at a3
          simp -failIfUnchanged (disch := first | omega | (simp <;> omega) | fail) only [go_sem, simprocAttr]
          refine wcall a3 ?_
          simp -failIfUnchanged (disch := first | omega | (simp <;> omega) | fail) only [go_sem, simprocAttr]
          refine wcall b3 ?_
          simp -failIfUnchanged (disch := first | omega | (simp <;> omega) | fail) only [go_sem, simprocAttr]
          refine wcall (c26 h h (by omega)) ?_
          simp -failIfUnchanged (disch := first | omega | (simp <;> omega) | fail) only [go_sem, simprocAttr, eq_self]
          refine wcall (c26 r r (by omega)) ?_
          simp -failIfUnchanged (disch := first | omega | (simp <;> omega) | fail) only [go_sem, simprocAttr, eq_self]
          refine wcall (c35 _ _ _) ?_
          cases hw : within g (b.sh[Q]?.getD default) 20 with
          | false =>
            simp -failIfUnchanged (disch := first | omega | (simp <;> omega) | fail) only [go_sem, simprocAttr]
            refine wcall c16 ?_
            simp -failIfUnchanged (disch := first | omega | (simp <;> omega) | fail) only [go_sem, simprocAttr]
          | true =>
            have hw2 : at0 b.sh Q ≤ g ∧ g ≤ 20 := within_iff.1 hw
            have hsq := hv.s0 Q hQ
            have hv1 := shared_val hv Q (s := g) (by omega)
            have k36 := c36 b hv Q g hQ
            have hm := mre_shared b hv Q g hQ hw2.1
            have m1 := more_own hv hv1 hm n
            have m2 := fun {i} (hi : i < b.sh.length) (hne : i ≠ Q) => more_other hv hv1 hm n hi hne
            have hlw : (sharedB b Q g).sh.length = b.sh.length := by simp [sharedB]
            have hl1 := hasL_len hv1 n
            rw [hlw] at hl1
            have a2 := c29 _ hv1 n hn
            rw [hhe] at m1
            rw [hhe] at m2
            generalize sharedB b Q g = W at *
            generalize hasL W n = k at *
            have e1 : decide (k[Q]?.getD default < h[Q]?.getD default) = false := decide_eq_false (by show ¬ at0 k Q < at0 h Q; omega)
            simp -failIfUnchanged (disch := first | omega | (simp <;> omega) | fail) only [go_sem, simprocAttr]
            refine wcall k36 ?_
            simp -failIfUnchanged (disch := first | omega | (simp <;> omega) | fail) only [go_sem, simprocAttr]
            refine wcall a2 ?_
            simp -failIfUnchanged (disch := first | omega | (simp <;> omega) | fail) only [go_sem, simprocAttr, e1]
            refine wp_loop' Nat (fun i => ⟨[(5, .ptr 5 0), (7, IS h), (17, IS k), (19, .int i)], [(5, ⟨[.int (Q : Nat), .int fl, .int o, .int g], false⟩)], [], none⟩) (fun i => i ≤ b.sh.length) (fun i => b.sh.length - i) 0 (by simp) (by simp -failIfUnchanged (disch := first | omega | (simp <;> omega) | fail) only [go_sem, simprocAttr]; try simp) ?_
            intro i hi
            have hi : i ≤ b.sh.length := hi
            simp -failIfUnchanged (disch := first | omega | (simp <;> omega) | fail) only [go_sem, simprocAttr]
            refine wcond_dec (fun hc => ?_) (fun hc => ?_)
            · have hlt : i < b.sh.length := by omega
              simp -failIfUnchanged (disch := first | omega | (simp <;> omega) | fail) only [go_sem, simprocAttr]
              refine WGd_bool (fun h3 => ?_) (fun h3 => ?_)
              · have h3' : ¬ (i : Int) = Q := by simpa using h3
                have e2 : decide (h[i]?.getD default < k[i]?.getD default) = false := decide_eq_false (by
                  have := m2 hlt (show i ≠ Q by omega)
                  show ¬ at0 h i < at0 k i
                  omega)
                simp -failIfUnchanged (disch := first | omega | (simp <;> omega) | fail) only [go_sem, simprocAttr, h3, e2]
                refine ⟨i + 1, by dsimp only; omega, by dsimp only; omega, ?_⟩
                simp -failIfUnchanged (disch := first | omega | (simp <;> omega) | fail) only [go_sem, simprocAttr]
                try simp
              · simp -failIfUnchanged (disch := first | omega | (simp <;> omega) | fail) only [go_sem, simprocAttr, h3]
                refine ⟨i + 1, by dsimp only; omega, by dsimp only; omega, ?_⟩
                simp -failIfUnchanged (disch := first | omega | (simp <;> omega) | fail) only [go_sem, simprocAttr]
                try simp
            · simp -failIfUnchanged (disch := first | omega | (simp <;> omega) | fail) only [go_sem, simprocAttr]
              refine wcall c16 ?_
              simp -failIfUnchanged (disch := first | omega | (simp <;> omega) | fail) only [go_sem, simprocAttr]

end Go.Proofs.Ytbghdcleoamkiaa

/- MouthsSome. -/
set_option linter.unusedSimpArgs false
set_option linter.unusedVariables false
set_option linter.unnecessarySimpa false
namespace Go.Proofs.Ytbghdcleoamkiaa
open Go Go.V

end Go.Proofs.Ytbghdcleoamkiaa

/- MouthsRounding. -/
set_option linter.unusedSimpArgs false
set_option linter.unusedVariables false
set_option linter.unnecessarySimpa false
namespace Go.Proofs.Ytbghdcleoamkiaa
open Go Go.V

end Go.Proofs.Ytbghdcleoamkiaa

/- RemaindersOf, Remainders, Paradox, Differ of the document; Differ of the program. -/
set_option linter.unusedSimpArgs false
set_option linter.unusedVariables false
set_option linter.unnecessarySimpa false
namespace Go.Proofs.Ytbghdcleoamkiaa
open Go Go.V

end Go.Proofs.Ytbghdcleoamkiaa

/- MouthsParadox; Exact and Served; MouthsExact. -/
set_option linter.unusedSimpArgs false
set_option linter.unusedVariables false
set_option linter.unnecessarySimpa false
namespace Go.Proofs.Ytbghdcleoamkiaa
open Go Go.V

end Go.Proofs.Ytbghdcleoamkiaa

/- From, Between; the document's Need. -/
set_option linter.unusedSimpArgs false
set_option linter.unusedVariables false
set_option linter.unnecessarySimpa false
namespace Go.Proofs.Ytbghdcleoamkiaa
open Go Go.V

def fstA (e : Int) (p : Nat → Bool) (n : Nat) : AV := if e = 0 then (match fst p n with | some k => .tup [.int k, .int 0] | none => .tup [.int 0, .int 3]) else .tup [.int 0, .int e]

theorem fstA_hit {p : Nat → Bool} {n i : Nat} (hi : i < n) (hpre : ∀ j, j < i → p j = false) (h : p i = true) : fstA 0 p n = .tup [.int i, .int 0] := by
  simp only [fstA, if_true, fst_hit hi hpre h]
theorem fstA_none {p : Nat → Bool} {n : Nat} (hpre : ∀ j, j < n → p j = false) : fstA 0 p n = .tup [.int 0, .int 3] := by
  simp only [fstA, if_true, fst_none hpre]
theorem fstA_err {e : Int} (h : e ≠ 0) (p : Nat → Bool) (n : Nat) : fstA e p n = .tup [.int 0, .int e] := by
  simp only [fstA, h, if_false]
def qB (b : Bx) (q g : Int) : Bool := within q 0 (w64 ((b.sh.length : Int) - 1)) && within g 1 20
def frmP (b : Bx) (q g : Int) (k : Nat) : Bool := decide (g ≤ at0 (hasL b k) q.toNat)
def frmR (b : Bx) (q g : Int) : AV := fstA (askB b (qB b q g)) (frmP b q g) 41

theorem ask_false (b : Bx) : askB b false ≠ 0 := fun h => by simp [askB_0] at h

theorem c50 (b : Bx) (q g : Int) : Ctr Try.prog 50 [MB b, .int q, .int g] (frmR b q g) := by
  refine ctr_of_wp hmix Try.func50 m50 rfl ?_
  unfold v50 frmR
  have hask := c62 b (qB b q g)
  unfold qB at hask ⊢
  simp -failIfUnchanged (disch := first | omega | (simp <;> omega) | fail) only [go_sem, simprocAttr]
  refine wcall (c79 b q) ?_
  cases hq : within q 0 (w64 ((b.sh.length : Int) - 1)) with
  | false =>
    rw [hq, Bool.false_and] at hask
    have hne := ask_false b
    rw [Bool.false_and, fstA_err hne]
    simp -failIfUnchanged (disch := first | omega | (simp <;> omega) | fail) only [go_sem, simprocAttr]
    refine wcall hask ?_
    simp -failIfUnchanged (disch := first | omega | (simp <;> omega) | fail) only [go_sem, simprocAttr, hne]
  | true =>
    rw [hq, Bool.true_and] at hask
    rw [Bool.true_and]
    simp -failIfUnchanged (disch := first | omega | (simp <;> omega) | fail) only [go_sem, simprocAttr]
    refine wcall (c80 g) ?_
    simp -failIfUnchanged (disch := first | omega | (simp <;> omega) | fail) only [go_sem, simprocAttr]
    refine wcall hask ?_
    by_cases h' : askB b (within g 1 20) = 0
    · obtain ⟨h1, h2⟩ := askB_0.1 h'
      rw [within_iff] at h2
      have hv := val_of_check h1
      have n5 := hv.n5
      obtain ⟨Q, rfl, hQ⟩ := quarter_iff hv hq
      rw [h']
      simp -failIfUnchanged (disch := first | omega | (simp <;> omega) | fail) only [go_sem, simprocAttr]
      refine wp_loop' Nat (fun k => ⟨[(1, .int Q), (2, .int g), (3, .ptr 3 0), (22, .int k)], [(3, ⟨[IS b.sh, IS b.mo], false⟩)], [], none⟩) (fun k => k ≤ 41 ∧ ∀ j, j < k → frmP b Q g j = false) (fun k => 41 - k) 0 (by simp) (by simp -failIfUnchanged (disch := first | omega | (simp <;> omega) | fail) only [go_sem, simprocAttr]; try simp) ?_
      rintro k ⟨hk, hpre⟩
      simp -failIfUnchanged (disch := first | omega | (simp <;> omega) | fail) only [go_sem, simprocAttr]
      refine wcond_dec (fun h => ?_) (fun h => ?_)
      · have hlt : k < 41 := by omega
        have hl := hasL_len hv k
        simp -failIfUnchanged (disch := first | omega | (simp <;> omega) | fail) only [go_sem, simprocAttr]
        refine wcall (c64 b hv k (by omega)) ?_
        simp -failIfUnchanged (disch := first | omega | (simp <;> omega) | fail) only [go_sem, simprocAttr]
        refine wcond_dec (fun hb => ?_) (fun hb => ?_)
        · rw [fstA_hit hlt hpre (decide_eq_true hb)]
          simp -failIfUnchanged (disch := first | omega | (simp <;> omega) | fail) only [go_sem, simprocAttr]
        · simp -failIfUnchanged (disch := first | omega | (simp <;> omega) | fail) only [go_sem, simprocAttr]
          refine ⟨k + 1, ⟨by omega, fun j hj => ?_⟩, by dsimp only; omega, ?_⟩
          · rcases Nat.lt_or_ge j k with h1 | h1
            · exact hpre j h1
            · obtain rfl : j = k := by omega
              exact decide_eq_false hb
          · simp -failIfUnchanged (disch := first | omega | (simp <;> omega) | fail) only [go_sem, simprocAttr]
            try simp
      · have e : k = 41 := by omega
        subst e
        rw [fstA_none hpre]
        simp -failIfUnchanged (disch := first | omega | (simp <;> omega) | fail) only [go_sem, simprocAttr]
    · rw [fstA_err h']
      simp -failIfUnchanged (disch := first | omega | (simp <;> omega) | fail) only [go_sem, simprocAttr, h']

def spL (b : Bx) (lo hi : Int) (k : Nat) : List Pr := (List.range k).map fun i => ⟨at0 (hasL b lo.toNat) i, at0 (hasL b hi.toNat) i⟩
theorem spL_succ (b : Bx) (lo hi : Int) (k : Nat) : spL b lo hi (k + 1) = spL b lo hi k ++ [⟨at0 (hasL b lo.toNat) k, at0 (hasL b hi.toNat) k⟩] := by
  unfold spL
  rw [List.range_succ, List.map_append]
  rfl
def loB (lo hi : Int) : Bool := within lo 0 40 && (within hi 0 40 && decide (lo ≤ hi))
def betR (b : Bx) (lo hi : Int) : AV := .tup [PS (if askB b (loB lo hi) = 0 then spL b lo hi b.sh.length else []), .int (askB b (loB lo hi))]

theorem c52 (b : Bx) (lo hi : Int) : Ctr Try.prog 52 [MB b, .int lo, .int hi] (betR b lo hi) := by
  refine ctr_of_wp hmix Try.func52 m52 rfl ?_
  unfold v52 betR
  have hask := c62 b (loB lo hi)
  unfold loB at hask ⊢
  have hne := ask_false b
  simp -failIfUnchanged (disch := first | omega | (simp <;> omega) | fail) only [go_sem, simprocAttr]
  refine wcall (c63 lo) ?_
  cases hq : within lo 0 40 with
  | false =>
    rw [hq, Bool.false_and] at hask
    rw [Bool.false_and, if_neg hne]
    simp -failIfUnchanged (disch := first | omega | (simp <;> omega) | fail) only [go_sem, simprocAttr]
    refine wcall hask ?_
    simp -failIfUnchanged (disch := first | omega | (simp <;> omega) | fail) only [go_sem, simprocAttr, hne]
    try simp
  | true =>
    rw [hq, Bool.true_and] at hask
    rw [Bool.true_and]
    simp -failIfUnchanged (disch := first | omega | (simp <;> omega) | fail) only [go_sem, simprocAttr]
    refine wcall (c63 hi) ?_
    cases hq2 : within hi 0 40 with
    | false =>
      rw [hq2, Bool.false_and] at hask
      rw [Bool.false_and, if_neg hne]
      simp -failIfUnchanged (disch := first | omega | (simp <;> omega) | fail) only [go_sem, simprocAttr]
      refine wcall hask ?_
      simp -failIfUnchanged (disch := first | omega | (simp <;> omega) | fail) only [go_sem, simprocAttr, hne]
      try simp
    | true =>
      rw [hq2, Bool.true_and] at hask
      rw [Bool.true_and]
      simp -failIfUnchanged (disch := first | omega | (simp <;> omega) | fail) only [go_sem, simprocAttr]
      refine wcall hask ?_
      by_cases h' : askB b (decide (lo ≤ hi)) = 0
      · obtain ⟨h1, h2⟩ := askB_0.1 h'
        have h2 : lo ≤ hi := of_decide_eq_true h2
        rw [within_iff] at hq hq2
        have hv := val_of_check h1
        have n5 := hv.n5
        obtain ⟨L, rfl⟩ : ∃ n : Nat, lo = n := ⟨lo.toNat, by omega⟩
        obtain ⟨H, rfl⟩ : ∃ n : Nat, hi = n := ⟨hi.toNat, by omega⟩
        rw [h', if_pos rfl]
        have l1 := hasL_len hv L
        have l2 := hasL_len hv H
        simp -failIfUnchanged (disch := first | omega | (simp <;> omega) | fail) only [go_sem, simprocAttr]
        refine wcall (c64 b hv L (by omega)) ?_
        simp -failIfUnchanged (disch := first | omega | (simp <;> omega) | fail) only [go_sem, simprocAttr]
        refine wcall (c64 b hv H (by omega)) ?_
        simp -failIfUnchanged (disch := first | omega | (simp <;> omega) | fail) only [go_sem, simprocAttr]
        refine wp_loop' Nat (fun i => ⟨[(9, .sl 2 ((spL b L H i).map PR) (.own 9)), (10, IS (hasL b L)), (11, IS (hasL b H)), (36, .int (hasL b L).length), (37, .int i)], [], [(9, i)], none⟩) (fun i => i ≤ b.sh.length) (fun i => b.sh.length - i) 0 (by simp) (by simp -failIfUnchanged (disch := first | omega | (simp <;> omega) | fail) only [go_sem, simprocAttr]; try simp [spL]) ?_
        intro i hi
        have hi : i ≤ b.sh.length := hi
        have hel : (spL b L H i).length = i := by simp [spL]
        simp -failIfUnchanged (disch := first | omega | (simp <;> omega) | fail) only [go_sem, simprocAttr]
        refine wcond_dec (fun hc => ?_) (fun hc => ?_)
        · have hlt : i < b.sh.length := by omega
          simp -failIfUnchanged (disch := first | omega | (simp <;> omega) | fail) only [go_sem, simprocAttr, hel]
          refine ⟨i + 1, by dsimp only; omega, by dsimp only; omega, ?_⟩
          dsimp only
          rw [spL_succ]
          simp -failIfUnchanged (disch := first | omega | (simp <;> omega) | fail) only [go_sem, simprocAttr]
          simp [hel, at0]
        · have e : i = b.sh.length := by omega
          subst e
          simp -failIfUnchanged (disch := first | omega | (simp <;> omega) | fail) only [go_sem, simprocAttr]
      · rw [if_neg h']
        simp -failIfUnchanged (disch := first | omega | (simp <;> omega) | fail) only [go_sem, simprocAttr, h']
        try simp

def nedP (b : Bx) (q f g : Int) (s : Nat) : Bool := decide (g ≤ at0 (hasL (sharedB b q.toNat s) f.toNat) q.toNat)
def nedB (b : Bx) (q f g : Int) : Bool := within q 0 (w64 ((b.sh.length : Int) - 1)) && (within f 0 40 && within g 1 20)
def nedR (b : Bx) (q f g : Int) : AV := fstA (askB b (nedB b q f g)) (nedP b q f g) 21

end Go.Proofs.Ytbghdcleoamkiaa

/- Need of the program; MouthsFrom. -/
set_option linter.unusedSimpArgs false
set_option linter.unusedVariables false
set_option linter.unnecessarySimpa false
namespace Go.Proofs.Ytbghdcleoamkiaa
open Go Go.V

theorem c64N (b : Bx) (hv : BV b) (f : Nat) (hf : f ≤ 1000) : CtrN Try.prog 64 [MB b, .int f] (IS (hasL b f)) := by
  refine ctrN_of_wp (t := 4) (xs := hasL b f) hmix Try.func64 m64 rfl ?_
  unfold v64
  have n5 := hv.n5
  simp -failIfUnchanged (disch := first | omega | (simp <;> omega) | fail) only [go_sem, simprocAttr]
  refine wp_range' ?_
  simp -failIfUnchanged (disch := first | omega | (simp <;> omega) | fail) only [go_sem, simprocAttr]
  refine wrange fun l T hT => ?_
  refine csem_of_wp hmix Try.func69 m69 rfl rfl ?_
  unfold v69
  simp -failIfUnchanged (disch := first | omega | (simp <;> omega) | fail) only [go_sem, simprocAttr]
  refine wp_loopX Nat (fun k => ⟨[(1, .yld l), (2, .ptr 1002 0), (4, .int k)],
    [(1002, ⟨gC b (hasL b k ++ List.replicate (5 - b.sh.length) 0), false⟩), (11, ⟨(hasL b k).map .int, false⟩), (5, ⟨[.bsl 11 0 1 b.sh.length false], false⟩), (3, ⟨[.int f], false⟩)], [], none⟩)
    (fun k => k ≤ f) (fun k => f - k) 0 (by simp) ?_ (fun x => by simp -failIfUnchanged (disch := first | omega | (simp <;> omega) | fail) only [go_sem, simprocAttr]) ?_
  · simp -failIfUnchanged (disch := first | omega | (simp <;> omega) | fail) only [go_sem, simprocAttr]
    refine ⟨?_, rfl⟩
    simp only [hasL, List.replicate_append_replicate, show b.sh.length + (5 - b.sh.length) = 5 by omega]
    rfl
  intro k hk
  have hk : k ≤ f := hk
  have hl := hasL_len hv k
  have hle : (b.sh.length ≤ (hasL b k).length) = True := eq_true (by omega)
  obtain ⟨hs, hse⟩ : ∃ hs, hs = hasL b k ++ List.replicate (5 - b.sh.length) 0 := ⟨_, rfl⟩
  have hsl : hs.length = 5 := by rw [hse]; simp; omega
  have hsa : ∀ i, at0 hs i = at0 (hasL b k) i := fun i => by rw [hse, at0_app]
  have hsn : nxt b hs = nxt b (hasL b k) := by rw [hse, nxt_app]
  have c84' := c84 b hv hs hsl fun i => by have := at0_has hv k i; rw [hsa]; omega
  rw [hsn] at c84'
  rw [← hse]
  simp -failIfUnchanged (disch := first | omega | (simp <;> omega) | fail) only [go_sem, simprocAttr, hsl]
  refine wcallb c84' rfl ?_
  simp -failIfUnchanged (disch := first | omega | (simp <;> omega) | fail) only [go_sem, simprocAttr]
  refine wyield (hT _ _ _ _ _ rfl ?_)
  simp -failIfUnchanged (disch := first | omega | (simp <;> omega) | fail) only [go_sem, simprocAttr]
  refine wcond_dec (fun h1 => ?_) (fun h1 => ?_)
  · simp -failIfUnchanged (disch := first | omega | (simp <;> omega) | fail) only [go_sem, simprocAttr]
    have e : k = f := by omega
    subst e
    simp -failIfUnchanged (disch := first | omega | (simp <;> omega) | fail) only [go_sem, simprocAttr, hle, chunks_ints]
    exact ⟨11, false, by rw [hl]; rfl, rfl⟩
  · rcases hasL_succ hv k with ⟨e, es⟩ | ⟨r, e, hr, es⟩
    · rw [e]
      simp -failIfUnchanged (disch := first | omega | (simp <;> omega) | fail) only [go_sem, simprocAttr]
      refine lpx_norm ⟨k + 1, by omega, by omega, ?_, by simp -failIfUnchanged (disch := first | omega | (simp <;> omega) | fail) only [go_sem, simprocAttr]⟩
      rw [es, ← hse]
      simp -failIfUnchanged (disch := first | omega | (simp <;> omega) | fail) only [go_sem, simprocAttr]
      try simp
    · have hbr : 0 ≤ (hasL b k)[r]?.getD default ∧ (hasL b k)[r]?.getD default ≤ 20 := at0_has hv k r
      have hbr2 : 0 ≤ at0 hs r ∧ at0 hs r ≤ 20 := by rw [hsa]; exact hbr
      have hset : hs.set r (at0 hs r + 1) = (hasL b k).set r (at0 (hasL b k) r + 1) ++ List.replicate (5 - b.sh.length) 0 := by
        rw [hsa, hse, List.set_append_left _ _ (by omega)]
      rw [e]
      simp -failIfUnchanged (disch := first | omega | (simp <;> omega) | fail) only [go_sem, simprocAttr, gC_get, gC_set]
      refine lpx_norm ⟨k + 1, by omega, by omega, ?_, by simp -failIfUnchanged (disch := first | omega | (simp <;> omega) | fail) only [go_sem, simprocAttr]⟩
      rw [es, ← hset]
      simp -failIfUnchanged (disch := first | omega | (simp <;> omega) | fail) only [go_sem, simprocAttr]
      try simp

theorem c55 (b : Bx) (q f g : Int) : Ctr Try.prog 55 [MB b, .int q, .int f, .int g] (nedR b q f g) := by
  refine ctr_of_wp hmix Try.func55 m55g rfl ?_
  unfold v55g nedR
  have hask := c62 b (nedB b q f g)
  have hne := ask_false b
  unfold nedB at hask ⊢
  simp -failIfUnchanged (disch := first | omega | (simp <;> omega) | fail) only [go_sem, simprocAttr]
  refine wcall (c79 b q) ?_
  cases hq : within q 0 (w64 ((b.sh.length : Int) - 1)) with
  | false =>
    rw [hq, Bool.false_and] at hask
    rw [Bool.false_and, fstA_err hne]
    simp -failIfUnchanged (disch := first | omega | (simp <;> omega) | fail) only [go_sem, simprocAttr]
    refine wcall hask ?_
    simp -failIfUnchanged (disch := first | omega | (simp <;> omega) | fail) only [go_sem, simprocAttr, hne]
  | true =>
    rw [hq, Bool.true_and] at hask
    rw [Bool.true_and]
    simp -failIfUnchanged (disch := first | omega | (simp <;> omega) | fail) only [go_sem, simprocAttr]
    refine wcall (c63 f) ?_
    cases hq2 : within f 0 40 with
    | false =>
      rw [hq2, Bool.false_and] at hask
      rw [Bool.false_and, fstA_err hne]
      simp -failIfUnchanged (disch := first | omega | (simp <;> omega) | fail) only [go_sem, simprocAttr]
      refine wcall hask ?_
      simp -failIfUnchanged (disch := first | omega | (simp <;> omega) | fail) only [go_sem, simprocAttr, hne]
    | true =>
      rw [hq2, Bool.true_and] at hask
      rw [Bool.true_and]
      simp -failIfUnchanged (disch := first | omega | (simp <;> omega) | fail) only [go_sem, simprocAttr]
      refine wcall (c80 g) ?_
      simp -failIfUnchanged (disch := first | omega | (simp <;> omega) | fail) only [go_sem, simprocAttr]
      refine wcall hask ?_
      by_cases h' : askB b (within g 1 20) = 0
      · obtain ⟨h1, h2⟩ := askB_0.1 h'
        rw [within_iff] at h2 hq2
        have hv := val_of_check h1
        have n5 := hv.n5
        obtain ⟨Q, rfl, hQ⟩ := quarter_iff hv hq
        obtain ⟨F, rfl⟩ : ∃ n : Nat, f = n := ⟨f.toNat, by omega⟩
        have hn0 : 0 < b.sh.length := by omega
        rw [h']
        simp -failIfUnchanged (disch := first | omega | (simp <;> omega) | fail) only [go_sem, simprocAttr]
        refine wcall_in hmix Try.func81 m81g rfl ?_
        unfold v81g
        simp -failIfUnchanged (disch := first | omega | (simp <;> omega) | fail) only [go_sem, simprocAttr]
        refine wp_loop' Nat (fun k => ⟨[(1, .int Q), (2, .int F), (3, .int g), (4, .ptr 4 0), (11, .ptr (K 1 0 0) Q)], [(K 1 0 0, ⟨(b.sh.set Q k).map .int, false⟩), (4, ⟨[.gsl 1 0 0 1 b.sh.length false, IS b.mo], false⟩)], [], none⟩) (fun k => k ≤ 21 ∧ ∀ j, j < k → nedP b Q F g j = false) (fun k => 21 - k) 0 (by simp) (by simp -failIfUnchanged (disch := first | omega | (simp <;> omega) | fail) only [go_sem, simprocAttr]; try simp) ?_
        rintro k ⟨hk, hpre⟩
        have hsl : (b.sh.set Q (k : Int)).length = b.sh.length := by simp
        have hsg : (b.sh.set Q (k : Int))[Q]?.getD default = k := by
          rw [List.getElem?_set_self hQ]
          rfl
        simp -failIfUnchanged (disch := first | omega | (simp <;> omega) | fail) only [go_sem, simprocAttr, hsl, hsg]
        refine wcond_dec (fun h => ?_) (fun h => ?_)
        · have hlt : k < 21 := by omega
          have hvs := shared_val hv Q (s := (k : Int)) (by omega)
          have hl := hasL_len hvs F
          have hl2 : (sharedB b Q k).sh.length = b.sh.length := by simp [sharedB]
          have cc := c64N _ hvs F (by omega)
          simp -failIfUnchanged (disch := first | omega | (simp <;> omega) | fail) only [go_sem, simprocAttr, hsl, hsg, chunks_ints, Nat.le_refl]
          refine wcallbN cc ?_
          simp -failIfUnchanged (disch := first | omega | (simp <;> omega) | fail) only [go_sem, simprocAttr]
          refine wcond_dec (fun hb => ?_) (fun hb => ?_)
          · rw [fstA_hit hlt hpre (decide_eq_true hb)]
            simp -failIfUnchanged (disch := first | omega | (simp <;> omega) | fail) only [go_sem, simprocAttr, hsl, hsg]
          · simp -failIfUnchanged (disch := first | omega | (simp <;> omega) | fail) only [go_sem, simprocAttr, hsl, hsg]
            refine ⟨k + 1, ⟨by omega, fun j hj => ?_⟩, by dsimp only; omega, ?_⟩
            · rcases Nat.lt_or_ge j k with h1 | h1
              · exact hpre j h1
              · obtain rfl : j = k := by omega
                exact decide_eq_false hb
            · simp -failIfUnchanged (disch := first | omega | (simp <;> omega) | fail) only [go_sem, simprocAttr, hsl, hsg, List.set_set]
              try simp
        · have e : k = 21 := by omega
          subst e
          rw [fstA_none hpre]
          simp -failIfUnchanged (disch := first | omega | (simp <;> omega) | fail) only [go_sem, simprocAttr]
      · rw [fstA_err h']
        simp -failIfUnchanged (disch := first | omega | (simp <;> omega) | fail) only [go_sem, simprocAttr, h']

end Go.Proofs.Ytbghdcleoamkiaa

/- MouthsBack. -/
set_option linter.unusedSimpArgs false
set_option linter.unusedVariables false
set_option linter.unnecessarySimpa false
namespace Go.Proofs.Ytbghdcleoamkiaa
open Go Go.V

theorem fst_some {p : Nat → Bool} {n i : Nat} (h : fst p n = some i) : i < n ∧ p i = true ∧ ∀ j, j < i → p j = false := by
  have hp : p i = true := List.find?_some h
  have hi : i < n := List.mem_range.1 (List.mem_of_find?_eq_some h)
  refine ⟨hi, hp, fun j hj => ?_⟩
  cases hq : p j with
  | false => rfl
  | true =>
    exfalso
    -- the first one is at most j
    have key : ∀ m, m ≤ n → (∀ k, k < m → p k = false) ∨ ∃ k, k < m ∧ p k = true ∧ ∀ l, l < k → p l = false := by
      intro m
      induction m with
      | zero => exact fun _ => .inl fun k hk => absurd hk (Nat.not_lt_zero k)
      | succ m ih =>
        intro hm
        rcases ih (by omega) with h | ⟨k, hk, h1, h2⟩
        · cases hpm : p m with
          | false =>
            refine .inl fun k hk => ?_
            rcases Nat.lt_or_ge k m with h3 | h3
            · exact h k h3
            · obtain rfl : k = m := by omega
              exact hpm
          | true => exact .inr ⟨m, by omega, hpm, h⟩
        · exact .inr ⟨k, by omega, h1, h2⟩
    rcases key n (Nat.le_refl _) with h1 | ⟨k, hk, h1, h2⟩
    · rw [h1 i hi] at hp; cases hp
    · have := fst_hit hk h2 h1
      rw [h] at this
      injection this with this
      subst this
      rw [h2 j hj] at hq
      cases hq

theorem fst_no {p : Nat → Bool} {n : Nat} (h : fst p n = none) : ∀ j, j < n → p j = false := by
  intro j hj
  unfold fst at h
  rw [List.find?_eq_none] at h
  have := h j (List.mem_range.2 hj)
  simpa using this

/-- What From answers. -/
theorem frm_cases {b : Bx} (hv : BV b) (Q : Nat) (hQ : Q < b.sh.length) (g : Int) (hg : 1 ≤ g) :
    (fst (frmP b Q g) 41 = none ∧ at0 (hasL b 40) Q < g) ∨ ∃ n : Nat, fst (frmP b Q g) 41 = some n ∧ 1 ≤ n ∧ n ≤ 40 ∧ g ≤ at0 (hasL b 40) Q ∧ at0 (hasL b n) Q = g ∧ nxt b (hasL b (n - 1)) = Q := by
  cases h : fst (frmP b Q g) 41 with
  | none =>
    have := fst_no h 40 (by omega)
    have : ¬ g ≤ at0 (hasL b 40) Q := of_decide_eq_false this
    exact .inl ⟨rfl, by omega⟩
  | some n =>
    obtain ⟨h1, h2, h3⟩ := fst_some h
    have h2 : g ≤ at0 (hasL b n) Q := of_decide_eq_true h2
    have h0 : at0 (hasL b 0) Q = 0 := by simp [hasL, at0_rep]
    have hn : 1 ≤ n := by
      rcases Nat.eq_zero_or_pos n with e | e
      · subst e; omega
      · exact e
    have hm := has_mono hv (show n ≤ 40 by omega) Q hQ
    obtain ⟨k, rfl⟩ : ∃ k, n = k + 1 := ⟨n - 1, by omega⟩
    have h4 : ¬ g ≤ at0 (hasL b k) Q := of_decide_eq_false (h3 k (by omega))
    have hl := hasL_len hv k
    refine .inr ⟨k + 1, rfl, hn, by omega, by omega, ?_⟩
    rw [Nat.add_sub_cancel]
    rcases hasL_succ hv k with ⟨_, e⟩ | ⟨r, e1, hr, e2⟩
    · rw [e] at h2; exact absurd h2 h4
    · rw [e2, at0_set (by omega)] at h2
      by_cases e : r = Q
      · subst e
        rw [if_pos rfl] at h2
        refine ⟨?_, e1⟩
        rw [e2, at0_set (by omega), if_pos rfl]
        omega
      · rw [if_neg e] at h2
        exact absurd h2 h4

/-- What Need answers. -/
theorem ned_cases {b : Bx} (hv : BV b) (Q : Nat) (hQ : Q < b.sh.length) (F : Nat) (g : Int) (hg : 1 ≤ g) : ∃ s : Nat, 1 ≤ s ∧ s ≤ 21 ∧ ((fst (nedP b Q F g) 21 = some s ∧ s ≤ 20) ∨ (fst (nedP b Q F g) 21 = none ∧ s = 21)) ∧
    ∀ k, s ≤ k + 1 → k ≤ s → k ≤ 20 → nedP b Q F g k = decide (k = s) := by
  have h0 : nedP b Q F g 0 = false := by
    have hvs := shared_val hv Q (s := ((0 : Nat) : Int)) (by omega)
    have hg0 := gd_has hvs F
    have : at0 (hasL (sharedB b Q ((0 : Nat) : Int)) F) Q = 0 := by
      apply hg0.no Q (by simp [sharedB]; exact hQ)
      show at0 (b.sh.set Q _) Q = 0
      rw [at0_set hQ, if_pos rfl]
      rfl
    apply decide_eq_false
    show ¬ g ≤ at0 (hasL (sharedB b Q ((0 : Nat) : Int)) F) Q
    omega
  cases h : fst (nedP b Q F g) 21 with
  | none =>
    refine ⟨21, by omega, by omega, .inr ⟨rfl, rfl⟩, fun k h1 h2 h3 => ?_⟩
    rw [fst_no h k (by omega)]
    exact (decide_eq_false (by omega)).symm
  | some s =>
    obtain ⟨h1, h2, h3⟩ := fst_some h
    have hs : 1 ≤ s := by
      rcases Nat.eq_zero_or_pos s with e | e
      · subst e; rw [h0] at h2; cases h2
      · exact e
    refine ⟨s, hs, by omega, .inl ⟨rfl, by omega⟩, fun k k1 k2 k3 => ?_⟩
    rcases Nat.lt_or_ge k s with e | e
    · rw [h3 k e]
      exact (decide_eq_false (by omega)).symm
    · obtain rfl : k = s := by omega
      rw [h2]
      exact (decide_eq_true rfl).symm

structure Later (T : Prop) : Prop where
  out : T
theorem tailed {T G : Prop} (h : Later T → G) (t : T) : G := h ⟨t⟩

theorem c14 (b : Bx) (q f o g : Int) : Ctr Try.prog 14 [MB b, .agg [.int q, .int f, .int o, .int g]] (.bool true) := by
  refine ctr_of_wp hmix Try.func14 m14 rfl ?_
  unfold v14
  simp -failIfUnchanged (disch := first | omega | (simp <;> omega) | fail) only [go_sem, simprocAttr]
  refine wcall (c28 b f) ?_
  cases hr : (checkB b && within f 0 40) with
  | false =>
    simp -failIfUnchanged (disch := first | omega | (simp <;> omega) | fail) only [go_sem, simprocAttr]
    refine wcall c16 ?_
    simp -failIfUnchanged (disch := first | omega | (simp <;> omega) | fail) only [go_sem, simprocAttr]
  | true =>
    obtain ⟨hv, F, rfl, hF⟩ := ready_iff hr
    have n5 := hv.n5
    have hml := hv.len
    simp -failIfUnchanged (disch := first | omega | (simp <;> omega) | fail) only [go_sem, simprocAttr]
    refine wcall (c32 b q) ?_
    cases hq : within q 0 (w64 ((b.sh.length : Int) - 1)) with
    | false =>
      simp -failIfUnchanged (disch := first | omega | (simp <;> omega) | fail) only [go_sem, simprocAttr]
      refine wcall c16 ?_
      simp -failIfUnchanged (disch := first | omega | (simp <;> omega) | fail) only [go_sem, simprocAttr]
    | true =>
      obtain ⟨Q, rfl, hQ⟩ := quarter_iff hv hq
      simp -failIfUnchanged (disch := first | omega | (simp <;> omega) | fail) only [go_sem, simprocAttr]
      refine wcall (c57 g) ?_
      cases hg : within g 1 20 with
      | false =>
        simp -failIfUnchanged (disch := first | omega | (simp <;> omega) | fail) only [go_sem, simprocAttr]
        refine wcall c16 ?_
        simp -failIfUnchanged (disch := first | omega | (simp <;> omega) | fail) only [go_sem, simprocAttr]
      | true =>
        have hcb := check_of_val hv
        have hqB : askB b (qB b Q g) = 0 := by
          unfold qB
          rw [hq, hg]
          exact askB_0.2 ⟨hcb, rfl⟩
        have hnB : askB b (nedB b Q F g) = 0 := by
          unfold nedB
          rw [hq, hg, within_iff.2 ⟨by omega, by omega⟩]
          exact askB_0.2 ⟨hcb, rfl⟩
        rw [within_iff] at hg
        have l40 := hasL_len hv 40
        have a1 : Ctr Try.prog 50 _ (frmR b Q g) := c50 b Q g
        have a2 := c29 b hv 40 (by omega)
        simp -failIfUnchanged (disch := first | omega | (simp <;> omega) | fail) only [go_sem, simprocAttr]
        refine tailed (T := ?T) (fun tail => ?m) ?t
        case m =>
          rcases frm_cases hv Q hQ g hg.1 with ⟨e, h1⟩ | ⟨n, e, h1, h2, h3, h4, h5⟩
          · have er : frmR b Q g = .tup [.int 0, .int 3] := by simp only [frmR, fstA, hqB, if_true, e]
            rw [er] at a1
            have h6 : ¬ g ≤ (hasL b 40)[Q]?.getD default := fun h => by
              have : g ≤ at0 (hasL b 40) Q := h
              omega
            refine wcall a1 ?_
            simp -failIfUnchanged (disch := first | omega | (simp <;> omega) | fail) only [go_sem, simprocAttr]
            refine wcall a2 ?_
            simp -failIfUnchanged (disch := first | omega | (simp <;> omega) | fail) only [go_sem, simprocAttr]
            refine wcall (c30 3) ?_
            simp -failIfUnchanged (disch := first | omega | (simp <;> omega) | fail) only [go_sem, simprocAttr, h6]
            exact tail.out
          · have er : frmR b Q g = .tup [.int n, .int 0] := by simp only [frmR, fstA, hqB, if_true, e]
            rw [er] at a1
            have h6 : g ≤ (hasL b 40)[Q]?.getD default := h3
            have ln := hasL_len hv n
            have a3 := c29 b hv n h2
            have a4 := c24 b ((n : Int) - 1)
            have hat : askB b (within ((n : Int) - 1) 0 39) = 0 := askB_0.2 ⟨hcb, within_iff.2 ⟨by omega, by omega⟩⟩
            have hn1 : ((n : Int) - 1).toNat = n - 1 := by omega
            have et : trnR b ((n : Int) - 1) = .tup [.int Q, .int 0] := by
              simp only [trnR, hat, if_true, hn1, h5]
              rw [if_pos (by omega)]
            rw [et] at a4
            have h7 : (hasL b n)[Q]?.getD default = g := h4
            have h8 : ¬ (n : Int) < 1 := by omega
            have h9 : ¬ (40 : Int) < n := by omega
            refine wcall a1 ?_
            simp -failIfUnchanged (disch := first | omega | (simp <;> omega) | fail) only [go_sem, simprocAttr]
            refine wcall a2 ?_
            simp -failIfUnchanged (disch := first | omega | (simp <;> omega) | fail) only [go_sem, simprocAttr]
            refine wcall (c30 0) ?_
            simp -failIfUnchanged (disch := first | omega | (simp <;> omega) | fail) only [go_sem, simprocAttr, h6, h8, h9]
            refine wcall a3 ?_
            simp -failIfUnchanged (disch := first | omega | (simp <;> omega) | fail) only [go_sem, simprocAttr]
            refine wcall a4 ?_
            simp -failIfUnchanged (disch := first | omega | (simp <;> omega) | fail) only [go_sem, simprocAttr, h7]
            exact tail.out
        case t =>
          obtain ⟨s, hs1, hs2, hcase, hk⟩ := ned_cases hv Q hQ F g hg.1
          have a5 : Ctr Try.prog 55 _ (nedR b Q F g) := c55 b Q F g
          refine tailed (T := ?T2) (fun tail => ?m2) ?t2
          case m2 =>
            rcases hcase with ⟨e, hs3⟩ | ⟨e, hs3⟩
            · have er : nedR b Q F g = .tup [.int s, .int 0] := by simp only [nedR, fstA, hnB, if_true, e]
              rw [er] at a5
              have h8 : ¬ (s : Int) < 1 := by omega
              have h9 : ¬ (21 : Int) < s := by omega
              refine wcall a5 ?_
              simp -failIfUnchanged (disch := first | omega | (simp <;> omega) | fail) only [go_sem, simprocAttr]
              refine wcall (c30 0) ?_
              simp -failIfUnchanged (disch := first | omega | (simp <;> omega) | fail) only [go_sem, simprocAttr, h8, h9]
              exact tail.out
            · have er : nedR b Q F g = .tup [.int 0, .int 3] := by simp only [nedR, fstA, hnB, if_true, e]
              rw [er] at a5
              refine wcall a5 ?_
              simp -failIfUnchanged (disch := first | omega | (simp <;> omega) | fail) only [go_sem, simprocAttr]
              refine wcall (c30 3) ?_
              simp -failIfUnchanged (disch := first | omega | (simp <;> omega) | fail) only [go_sem, simprocAttr]
              subst hs3
              exact tail.out
          case t2 =>
            refine wp_loop' Nat (fun k => ⟨[(2, .ptr 2 0), (3, .ptr 3 0), (13, .int s), (15, .int k)], [(3, ⟨[.int Q, .int F, .int o, .int g], false⟩), (2, ⟨[IS b.sh, IS b.mo], false⟩)], [], none⟩) (fun k => s ≤ k + 1 ∧ k ≤ s + 1 ∧ k ≤ 21) (fun k => s + 1 - k) (s - 1) (by omega) (by simp -failIfUnchanged (disch := first | omega | (simp <;> omega) | fail) only [go_sem, simprocAttr]; omega) ?_
            rintro k ⟨k1, k2, k3⟩
            simp -failIfUnchanged (disch := first | omega | (simp <;> omega) | fail) only [go_sem, simprocAttr]
            refine wcond_dec (fun h => ?_) (fun h => ?_)
            · have hks : k ≤ s := by omega
              have hk20 : k ≤ 20 := by omega
              have hvs := shared_val hv Q (s := (k : Int)) (by omega)
              have hl := hasL_len hvs F
              have hl2 : (sharedB b Q k).sh.length = b.sh.length := by simp [sharedB]
              have hkk : decide (g ≤ (hasL (sharedB b Q k) F)[Q]?.getD default) = decide ((k : Int) = (s : Int)) := by
                have h1 : decide (g ≤ (hasL (sharedB b Q k) F)[Q]?.getD default) = decide (k = s) := hk k (by omega) hks hk20
                rw [h1]
                by_cases e : k = s
                · rw [decide_eq_true e, decide_eq_true (by omega)]
                · rw [decide_eq_false e, decide_eq_false (by omega)]
              simp -failIfUnchanged (disch := first | omega | (simp <;> omega) | fail) only [go_sem, simprocAttr]
              refine wcall (c36 b hv Q k hQ) ?_
              simp -failIfUnchanged (disch := first | omega | (simp <;> omega) | fail) only [go_sem, simprocAttr]
              refine wcall (c29 _ hvs F hF) ?_
              simp -failIfUnchanged (disch := first | omega | (simp <;> omega) | fail) only [go_sem, simprocAttr, hkk, eq_self]
              refine ⟨k + 1, by omega, by dsimp only; omega, ?_⟩
              simp -failIfUnchanged (disch := first | omega | (simp <;> omega) | fail) only [go_sem, simprocAttr]
              try simp
            · simp -failIfUnchanged (disch := first | omega | (simp <;> omega) | fail) only [go_sem, simprocAttr]
              refine wcall (c58 o) ?_
              cases ho : within o 0 40 with
              | false =>
                simp -failIfUnchanged (disch := first | omega | (simp <;> omega) | fail) only [go_sem, simprocAttr]
                refine wcall c16 ?_
                simp -failIfUnchanged (disch := first | omega | (simp <;> omega) | fail) only [go_sem, simprocAttr]
              | true =>
                simp -failIfUnchanged (disch := first | omega | (simp <;> omega) | fail) only [go_sem, simprocAttr]
                refine wcond_dec (fun h3 => ?_) (fun h3 => ?_)
                · simp -failIfUnchanged (disch := first | omega | (simp <;> omega) | fail) only [go_sem, simprocAttr]
                  refine wcall c16 ?_
                  simp -failIfUnchanged (disch := first | omega | (simp <;> omega) | fail) only [go_sem, simprocAttr]
                · have hoo := within_iff.1 ho
                  obtain ⟨O, rfl⟩ : ∃ n : Nat, o = n := ⟨o.toNat, by omega⟩
                  have hFO : F ≤ O := by omega
                  have lF := hasL_len hv F
                  have lO := hasL_len hv O
                  have a6 := c52 b F O
                  have hb0 : askB b (loB F O) = 0 := by
                    unfold loB
                    rw [within_iff.2 ⟨by omega, by omega⟩, ho, decide_eq_true (show (F : Int) ≤ O by omega)]
                    exact askB_0.2 ⟨hcb, rfl⟩
                  have hsl : (spL b F O b.sh.length).length = b.sh.length := by simp [spL]
                  rw [betR, hb0, if_pos rfl] at a6
                  simp -failIfUnchanged (disch := first | omega | (simp <;> omega) | fail) only [go_sem, simprocAttr]
                  refine wcall a6 ?_
                  simp -failIfUnchanged (disch := first | omega | (simp <;> omega) | fail) only [go_sem, simprocAttr]
                  refine wcall (c29 b hv F hF) ?_
                  simp -failIfUnchanged (disch := first | omega | (simp <;> omega) | fail) only [go_sem, simprocAttr]
                  refine wcall (c29 b hv O (by omega)) ?_
                  simp -failIfUnchanged (disch := first | omega | (simp <;> omega) | fail) only [go_sem, simprocAttr, hsl, lF]
                  refine wp_loop' Nat (fun i => ⟨[(18, PS (spL b F O b.sh.length)), (20, IS (hasL b F)), (22, IS (hasL b O)), (24, .int i)], [], [], none⟩) (fun i => i ≤ b.sh.length) (fun i => b.sh.length - i) 0 (by simp) (by simp -failIfUnchanged (disch := first | omega | (simp <;> omega) | fail) only [go_sem, simprocAttr]; try simp) ?_
                  intro i hi
                  have hi : i ≤ b.sh.length := hi
                  simp -failIfUnchanged (disch := first | omega | (simp <;> omega) | fail) only [go_sem, simprocAttr]
                  refine wcond_dec (fun hc => ?_) (fun hc => ?_)
                  · have hlt : i < b.sh.length := by omega
                    have hsp : (spL b F O b.sh.length)[i]? = some ⟨(hasL b F)[i]?.getD default, (hasL b O)[i]?.getD default⟩ := by simp [spL, hlt, at0]
                    simp -failIfUnchanged (disch := first | omega | (simp <;> omega) | fail) only [go_sem, simprocAttr, hsp, hsl, wbin_sne2]
                    refine ⟨i + 1, by dsimp only; omega, by dsimp only; omega, ?_⟩
                    simp -failIfUnchanged (disch := first | omega | (simp <;> omega) | fail) only [go_sem, simprocAttr]
                    try simp
                  · simp -failIfUnchanged (disch := first | omega | (simp <;> omega) | fail) only [go_sem, simprocAttr]
                    refine wcall c16 ?_
                    simp -failIfUnchanged (disch := first | omega | (simp <;> omega) | fail) only [go_sem, simprocAttr]

end Go.Proofs.Ytbghdcleoamkiaa
