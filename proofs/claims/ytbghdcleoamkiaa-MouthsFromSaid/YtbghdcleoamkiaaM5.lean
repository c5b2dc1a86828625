/- Merged by program: T17, T18, T19, T20, T21, T22, T23. -/
import Derived.Test.YtbghdcleoamkiaaM4
/- MouthsShares. -/
set_option linter.unusedSimpArgs false
set_option linter.unusedVariables false
set_option linter.unnecessarySimpa false
namespace Go.Proofs.Ytbghdcleoamkiaa
open Go Go.V

def twI (b : Bx) (i : Nat) : List Int := (List.range b.sh.length).map fun j => if j < i then 2 * at0 b.sh j else at0 b.sh j

theorem twI_0 (b : Bx) : twI b 0 = b.sh := by
  unfold twI
  simp only [Nat.not_lt_zero, if_false]
  exact list_rmap b.sh
theorem twI_len (b : Bx) (i : Nat) : (twI b i).length = b.sh.length := by simp [twI]
theorem twI_at (b : Bx) (i : Nat) (hi : i < b.sh.length) : at0 (twI b i) i = at0 b.sh i := by
  unfold twI
  rw [at0_rmap _ hi, if_neg (Nat.lt_irrefl i)]
theorem twI_set (b : Bx) (i : Nat) (hi : i < b.sh.length) : (twI b i).set i (at0 b.sh i * 2) = twI b (i + 1) := by
  apply List.ext_getElem (by simp [twI])
  intro j h1 h2
  simp only [twI, List.length_map, List.length_range] at h2
  rw [List.getElem_set]
  by_cases e : i = j
  · subst e
    simp [twI]
    omega
  · rw [if_neg e]
    simp only [twI, List.getElem_map, List.getElem_range]
    by_cases h3 : j < i
    · rw [if_pos h3, if_pos (by omega)]
    · rw [if_neg h3, if_neg (by omega)]

def twB (b : Bx) : Bx := ⟨twI b b.sh.length, b.mo⟩

theorem twB_at (b : Bx) (i : Nat) : at0 (twB b).sh i = 2 * at0 b.sh i := by
  show at0 (twI b b.sh.length) i = _
  rcases Nat.lt_or_ge i b.sh.length with h | h
  · unfold twI
    rw [at0_rmap _ h, if_pos h]
  · have e1 : at0 b.sh i = 0 := by simp only [at0, List.getElem?_eq_none h]; rfl
    have e2 : at0 (twI b b.sh.length) i = 0 := by simp only [at0, List.getElem?_eq_none (show (twI b b.sh.length).length ≤ i by rw [twI_len]; exact h)]; rfl
    rw [e1, e2]; rfl

theorem mre_shared (b : Bx) (hv : BV b) (Q : Nat) (g : Int) (hQ : Q < b.sh.length) (hg : at0 b.sh Q ≤ g) : Mre b (sharedB b Q g) Q := by
  refine ⟨hQ, by simp [sharedB], ?_, Int.le_refl _, fun i hi => ?_, fun i _ => rfl⟩
  · show at0 b.sh Q ≤ at0 (b.sh.set Q g) Q
    rw [at0_set hQ, if_pos rfl]
    exact hg
  · show at0 (b.sh.set Q g) i = at0 b.sh i
    rw [at0_set hQ, if_neg (by omega)]

theorem c6 (b : Bx) (f q fl o g : Int) : Ctr Try.prog 6 [MB b, .int f, .agg [.int q, .int fl, .int o, .int g]] (.bool true) := by
  refine ctr_of_wp hmix Try.func6 m6g rfl ?_
  unfold v6g
  simp -failIfUnchanged (disch := first | omega | (simp <;> omega) | fail) only [go_sem, simprocAttr]
  refine wcall (c28 b f) ?_
  cases hr : (checkB b && within f 0 40) with
  | false =>
    simp -failIfUnchanged (disch := first | omega | (simp <;> omega) | fail) only [go_sem, simprocAttr]
    refine wcall c16 ?_
    simp -failIfUnchanged (disch := first | omega | (simp <;> omega) | fail) only [go_sem, simprocAttr]
  | true =>
    obtain ⟨hv, n, rfl, hn⟩ := ready_iff hr
    have n5 := hv.n5
    have hml := hv.len
    simp -failIfUnchanged (disch := first | omega | (simp <;> omega) | fail) only [go_sem, simprocAttr]
    refine wcall (c32 b q) ?_
    cases hq : within q 0 (w64 ((b.sh.length : Int) - 1)) with
    | false =>
      simp -failIfUnchanged (disch := first | omega | (simp <;> omega) | fail) only [go_sem, simprocAttr]
      refine wcall c16 ?_
      simp -failIfUnchanged (disch := first | omega | (simp <;> omega) | fail) only [go_sem, simprocAttr]
    | true =>
      obtain ⟨Q, rfl, hQ⟩ := quarter_iff hv hq
      have hl := hasL_len hv n
      have hrl := remL_len b n
      have a1 := c29 b hv n hn
      have b1 := c34 b n
      rw [remR_ok hv hn] at b1
      have t1 := has_twice (b := b) (b' := twB b) (twI_len _ _) (fun _ => rfl) (twB_at b) n
      have t2 := rem_twice (b := b) (b' := twB b) (twI_len _ _) (twB_at b) n
      obtain ⟨h, hhe⟩ : ∃ h, hasL b n = h := ⟨_, rfl⟩
      rw [hhe] at hl a1 t1
      obtain ⟨r, hre⟩ : ∃ r, remL b n = r := ⟨_, rfl⟩
      rw [hre] at hrl b1 t2
      simp -failIfUnchanged (disch := first | omega | (simp <;> omega) | fail) only [go_sem, simprocAttr]
      refine wcall a1 ?_
      simp -failIfUnchanged (disch := first | omega | (simp <;> omega) | fail) only [go_sem, simprocAttr]
      refine wcall b1 ?_
      simp -failIfUnchanged (disch := first | omega | (simp <;> omega) | fail) only [go_sem, simprocAttr]
      refine wcall_in hmix Try.func17 m17g rfl ?_
      unfold v17g
      simp -failIfUnchanged (disch := first | omega | (simp <;> omega) | fail) only [go_sem, simprocAttr]
      refine wp_loop' Nat (fun i => ⟨[(1, .int n), (3, .ptr 3 0), (5, .ptr 5 0), (7, IS h), (9, IS r), (11, .ptr 11 0), (12, .int i)],
        [(11, ⟨[.gsl 1 0 0 1 b.sh.length false, .gsl 2 0 0 1 b.mo.length false], false⟩), (K 2 0 0, ⟨b.mo.map .int, false⟩), (K 1 0 0, ⟨(twI b i).map .int, false⟩), (5, ⟨[.int (Q : Nat), .int fl, .int o, .int g], false⟩), (3, ⟨[IS b.sh, IS b.mo], false⟩)], [], none⟩) (fun i => i ≤ b.sh.length) (fun i => b.sh.length - i) 0 (by simp) (by simp -failIfUnchanged (disch := first | omega | (simp <;> omega) | fail) only [go_sem, simprocAttr]; simp [twI_0]) ?_
      intro i hi
      have hi : i ≤ b.sh.length := hi
      have hwl := twI_len b i
      simp -failIfUnchanged (disch := first | omega | (simp <;> omega) | fail) only [go_sem, simprocAttr]
      refine wcond_dec (fun hc => ?_) (fun hc => ?_)
      · have hlt : i < b.sh.length := by omega
        have hta : (twI b i)[i]?.getD default = at0 b.sh i := twI_at b i hlt
        have hsi : 0 ≤ at0 b.sh i ∧ at0 b.sh i ≤ 20 := hv.s0 i hlt
        simp -failIfUnchanged (disch := first | omega | (simp <;> omega) | fail) only [go_sem, simprocAttr, hta]
        refine ⟨i + 1, by dsimp only; omega, by dsimp only; omega, ?_⟩
        dsimp only
        rw [← twI_set b i hlt]
        simp -failIfUnchanged (disch := first | omega | (simp <;> omega) | fail) only [go_sem, simprocAttr]
        try simp
      · have e : i = b.sh.length := by omega
        subst e
        have c19' : Ctr Try.prog 19 [.agg [IS (twI b b.sh.length), IS b.mo]] (.int (errM (twB b))) := c19 (twB b)
        simp -failIfUnchanged (disch := first | omega | (simp <;> omega) | fail) only [go_sem, simprocAttr]
        refine wopsN [K 1 0 0, K 2 0 0] ?_
        simp -failIfUnchanged (disch := first | omega | (simp <;> omega) | fail) only [go_sem, simprocAttr, chunks_ints, Nat.le_refl, hwl]
        refine wcall c19' ?_
        unfold errM
        cases hct : checkB (twB b) with
        | false =>
          simp -failIfUnchanged (disch := first | omega | (simp <;> omega) | fail) only [go_sem, simprocAttr]
          refine wcall (c35 _ _ _) ?_
          cases hw : within g (b.sh[Q]?.getD default) 20 with
          | false =>
            simp -failIfUnchanged (disch := first | omega | (simp <;> omega) | fail) only [go_sem, simprocAttr]
            refine wcall c16 ?_
            simp -failIfUnchanged (disch := first | omega | (simp <;> omega) | fail) only [go_sem, simprocAttr]
          | true =>
            have hw2 : at0 b.sh Q ≤ g ∧ g ≤ 20 := within_iff.1 hw
            have hsq := hv.s0 Q hQ
            have hv1 := shared_val hv Q (s := g) (by omega)
            have k36 := c36 b hv Q g hQ
            have hm := mre_shared b hv Q g hQ hw2.1
            have m1 := more_own hv hv1 hm n
            have m2 := fun {i} (hi : i < b.sh.length) (hne : i ≠ Q) => more_other hv hv1 hm n hi hne
            have hlw : (sharedB b Q g).sh.length = b.sh.length := by simp [sharedB]
            have hl1 := hasL_len hv1 n
            rw [hlw] at hl1
            have a2 := c29 _ hv1 n hn
            rw [hhe] at m1
            rw [hhe] at m2
            generalize sharedB b Q g = W at *
            generalize hasL W n = k at *
            have e1 : decide (k[Q]?.getD default < h[Q]?.getD default) = false := decide_eq_false (by show ¬ at0 k Q < at0 h Q; omega)
            simp -failIfUnchanged (disch := first | omega | (simp <;> omega) | fail) only [go_sem, simprocAttr]
            refine wcall k36 ?_
            simp -failIfUnchanged (disch := first | omega | (simp <;> omega) | fail) only [go_sem, simprocAttr]
            refine wcall a2 ?_
            simp -failIfUnchanged (disch := first | omega | (simp <;> omega) | fail) only [go_sem, simprocAttr, e1]
            refine wp_loop' Nat (fun i => ⟨[(5, .ptr 5 0), (7, IS h), (17, IS k), (19, .int i)], [(5, ⟨[.int (Q : Nat), .int fl, .int o, .int g], false⟩)], [], none⟩) (fun i => i ≤ b.sh.length) (fun i => b.sh.length - i) 0 (by simp) (by simp -failIfUnchanged (disch := first | omega | (simp <;> omega) | fail) only [go_sem, simprocAttr]; try simp) ?_
            intro i hi
            have hi : i ≤ b.sh.length := hi
            simp -failIfUnchanged (disch := first | omega | (simp <;> omega) | fail) only [go_sem, simprocAttr]
            refine wcond_dec (fun hc => ?_) (fun hc => ?_)
            · have hlt : i < b.sh.length := by omega
              simp -failIfUnchanged (disch := first | omega | (simp <;> omega) | fail) only [go_sem, simprocAttr]
              refine WGd_bool (fun h3 => ?_) (fun h3 => ?_)
              · have h3' : ¬ (i : Int) = Q := by simpa using h3
                have e2 : decide (h[i]?.getD default < k[i]?.getD default) = false := decide_eq_false (by
                  have := m2 hlt (show i ≠ Q by omega)
                  show ¬ at0 h i < at0 k i
                  omega)
                simp -failIfUnchanged (disch := first | omega | (simp <;> omega) | fail) only [go_sem, simprocAttr, h3, e2]
                refine ⟨i + 1, by dsimp only; omega, by dsimp only; omega, ?_⟩
                simp -failIfUnchanged (disch := first | omega | (simp <;> omega) | fail) only [go_sem, simprocAttr]
                try simp
              · simp -failIfUnchanged (disch := first | omega | (simp <;> omega) | fail) only [go_sem, simprocAttr, h3]
                refine ⟨i + 1, by dsimp only; omega, by dsimp only; omega, ?_⟩
                simp -failIfUnchanged (disch := first | omega | (simp <;> omega) | fail) only [go_sem, simprocAttr]
                try simp
            · simp -failIfUnchanged (disch := first | omega | (simp <;> omega) | fail) only [go_sem, simprocAttr]
              refine wcall c16 ?_
              simp -failIfUnchanged (disch := first | omega | (simp <;> omega) | fail) only [go_sem, simprocAttr]
        | true =>
          have hvt := val_of_check hct
          have a3 : Ctr Try.prog 29 [.agg [IS (twI b b.sh.length), IS b.mo], .int n] (.tup [IS (hasL (twB b) n), .bool true]) := c29 (twB b) hvt n hn
          have b3 : Ctr Try.prog 34 [.agg [IS (twI b b.sh.length), IS b.mo], .int n] (remR (twB b) n) := c34 (twB b) n
          rw [remR_ok hvt hn, t2] at b3
          rw [t1] at a3
          simp -failIfUnchanged (disch := first | omega | (simp <;> omega) | fail) only [go_sem, simprocAttr]
          refine wcall a3 ?_
          simp -failIfUnchanged (disch := first | omega | (simp <;> omega) | fail) only [go_sem, simprocAttr]
          refine wcall b3 ?_
          simp -failIfUnchanged (disch := first | omega | (simp <;> omega) | fail) only [go_sem, simprocAttr]
          refine wcall (c26 h h (by omega)) ?_
          simp -failIfUnchanged (disch := first | omega | (simp <;> omega) | fail) only [go_sem, simprocAttr, eq_self]
          refine wcall (c26 r r (by omega)) ?_
          simp -failIfUnchanged (disch := first | omega | (simp <;> omega) | fail) only [go_sem, simprocAttr, eq_self]
          refine wcall (c35 _ _ _) ?_
          cases hw : within g (b.sh[Q]?.getD default) 20 with
          | false =>
            simp -failIfUnchanged (disch := first | omega | (simp <;> omega) | fail) only [go_sem, simprocAttr]
            refine wcall c16 ?_
            simp -failIfUnchanged (disch := first | omega | (simp <;> omega) | fail) only [go_sem, simprocAttr]
          | true =>
            have hw2 : at0 b.sh Q ≤ g ∧ g ≤ 20 := within_iff.1 hw
            have hsq := hv.s0 Q hQ
            have hv1 := shared_val hv Q (s := g) (by omega)
            have k36 := c36 b hv Q g hQ
            have hm := mre_shared b hv Q g hQ hw2.1
            have m1 := more_own hv hv1 hm n
            have m2 := fun {i} (hi : i < b.sh.length) (hne : i ≠ Q) => more_other hv hv1 hm n hi hne
            have hlw : (sharedB b Q g).sh.length = b.sh.length := by simp [sharedB]
            have hl1 := hasL_len hv1 n
            rw [hlw] at hl1
            have a2 := c29 _ hv1 n hn
            rw [hhe] at m1
            rw [hhe] at m2
            generalize sharedB b Q g = W at *
            generalize hasL W n = k at *
            have e1 : decide (k[Q]?.getD default < h[Q]?.getD default) = false := decide_eq_false (by show ¬ at0 k Q < at0 h Q; omega)
            simp -failIfUnchanged (disch := first | omega | (simp <;> omega) | fail) only [go_sem, simprocAttr]
            refine wcall k36 ?_
            simp -failIfUnchanged (disch := first | omega | (simp <;> omega) | fail) only [go_sem, simprocAttr]
            refine wcall a2 ?_
            simp -failIfUnchanged (disch := first | omega | (simp <;> omega) | fail) only [go_sem, simprocAttr, e1]
            refine wp_loop' Nat (fun i => ⟨[(5, .ptr 5 0), (7, IS h), (17, IS k), (19, .int i)], [(5, ⟨[.int (Q : Nat), .int fl, .int o, .int g], false⟩)], [], none⟩) (fun i => i ≤ b.sh.length) (fun i => b.sh.length - i) 0 (by simp) (by simp -failIfUnchanged (disch := first | omega | (simp <;> omega) | fail) only [go_sem, simprocAttr]; try simp) ?_
            intro i hi
            have hi : i ≤ b.sh.length := hi
            simp -failIfUnchanged (disch := first | omega | (simp <;> omega) | fail) only [go_sem, simprocAttr]
            refine wcond_dec (fun hc => ?_) (fun hc => ?_)
            · have hlt : i < b.sh.length := by omega
              simp -failIfUnchanged (disch := first | omega | (simp <;> omega) | fail) only [go_sem, simprocAttr]
              refine WGd_bool (fun h3 => ?_) (fun h3 => ?_)
              · have h3' : ¬ (i : Int) = Q := by simpa using h3
                have e2 : decide (h[i]?.getD default < k[i]?.getD default) = false := decide_eq_false (by
                  have := m2 hlt (show i ≠ Q by omega)
                  show ¬ at0 h i < at0 k i
                  omega)
                simp -failIfUnchanged (disch := first | omega | (simp <;> omega) | fail) only [go_sem, simprocAttr, h3, e2]
                refine ⟨i + 1, by dsimp only; omega, by dsimp only; omega, ?_⟩
                simp -failIfUnchanged (disch := first | omega | (simp <;> omega) | fail) only [go_sem, simprocAttr]
                try simp
              · simp -failIfUnchanged (disch := first | omega | (simp <;> omega) | fail) only [go_sem, simprocAttr, h3]
                refine ⟨i + 1, by dsimp only; omega, by dsimp only; omega, ?_⟩
                simp -failIfUnchanged (disch := first | omega | (simp <;> omega) | fail) only [go_sem, simprocAttr]
                try simp
            · simp -failIfUnchanged (disch := first | omega | (simp <;> omega) | fail) only [go_sem, simprocAttr]
              refine wcall c16 ?_
              simp -failIfUnchanged (disch := first | omega | (simp <;> omega) | fail) only [go_sem, simprocAttr]

end Go.Proofs.Ytbghdcleoamkiaa

/- MouthsSome. -/
set_option linter.unusedSimpArgs false
set_option linter.unusedVariables false
set_option linter.unnecessarySimpa false
namespace Go.Proofs.Ytbghdcleoamkiaa
open Go Go.V

end Go.Proofs.Ytbghdcleoamkiaa

/- MouthsRounding. -/
set_option linter.unusedSimpArgs false
set_option linter.unusedVariables false
set_option linter.unnecessarySimpa false
namespace Go.Proofs.Ytbghdcleoamkiaa
open Go Go.V

end Go.Proofs.Ytbghdcleoamkiaa

/- RemaindersOf, Remainders, Paradox, Differ of the document; Differ of the program. -/
set_option linter.unusedSimpArgs false
set_option linter.unusedVariables false
set_option linter.unnecessarySimpa false
namespace Go.Proofs.Ytbghdcleoamkiaa
open Go Go.V

end Go.Proofs.Ytbghdcleoamkiaa

/- MouthsParadox; Exact and Served; MouthsExact. -/
set_option linter.unusedSimpArgs false
set_option linter.unusedVariables false
set_option linter.unnecessarySimpa false
namespace Go.Proofs.Ytbghdcleoamkiaa
open Go Go.V

end Go.Proofs.Ytbghdcleoamkiaa

/- From, Between; the document's Need. -/
set_option linter.unusedSimpArgs false
set_option linter.unusedVariables false
set_option linter.unnecessarySimpa false
namespace Go.Proofs.Ytbghdcleoamkiaa
open Go Go.V

def fstA (e : Int) (p : Nat → Bool) (n : Nat) : AV := if e = 0 then (match fst p n with | some k => .tup [.int k, .int 0] | none => .tup [.int 0, .int 3]) else .tup [.int 0, .int e]

theorem fstA_hit {p : Nat → Bool} {n i : Nat} (hi : i < n) (hpre : ∀ j, j < i → p j = false) (h : p i = true) : fstA 0 p n = .tup [.int i, .int 0] := by
  simp only [fstA, if_true, fst_hit hi hpre h]
theorem fstA_none {p : Nat → Bool} {n : Nat} (hpre : ∀ j, j < n → p j = false) : fstA 0 p n = .tup [.int 0, .int 3] := by
  simp only [fstA, if_true, fst_none hpre]
theorem fstA_err {e : Int} (h : e ≠ 0) (p : Nat → Bool) (n : Nat) : fstA e p n = .tup [.int 0, .int e] := by
  simp only [fstA, h, if_false]
theorem fstA_ex (e : Int) (p : Nat → Bool) (n : Nat) : ∃ x y : Int, fstA e p n = .tup [.int x, .int y] := by
  unfold fstA
  split
  · split <;> exact ⟨_, _, rfl⟩
  · exact ⟨_, _, rfl⟩

def qB (b : Bx) (q g : Int) : Bool := within q 0 (w64 ((b.sh.length : Int) - 1)) && within g 1 20
def frmP (b : Bx) (q g : Int) (k : Nat) : Bool := decide (g ≤ at0 (hasL b k) q.toNat)
def frmR (b : Bx) (q g : Int) : AV := fstA (askB b (qB b q g)) (frmP b q g) 41

theorem ask_false (b : Bx) : askB b false ≠ 0 := fun h => by simp [askB_0] at h

theorem c50 (b : Bx) (q g : Int) : Ctr Try.prog 50 [MB b, .int q, .int g] (frmR b q g) := by
  refine ctr_of_wp hmix Try.func50 m50 rfl ?_
  unfold v50 frmR
  have hask := c62 b (qB b q g)
  unfold qB at hask ⊢
  simp -failIfUnchanged (disch := first | omega | (simp <;> omega) | fail) only [go_sem, simprocAttr]
  refine wcall (c79 b q) ?_
  cases hq : within q 0 (w64 ((b.sh.length : Int) - 1)) with
  | false =>
    rw [hq, Bool.false_and] at hask
    have hne := ask_false b
    rw [Bool.false_and, fstA_err hne]
    simp -failIfUnchanged (disch := first | omega | (simp <;> omega) | fail) only [go_sem, simprocAttr]
    refine wcall hask ?_
    simp -failIfUnchanged (disch := first | omega | (simp <;> omega) | fail) only [go_sem, simprocAttr, hne]
  | true =>
    rw [hq, Bool.true_and] at hask
    rw [Bool.true_and]
    simp -failIfUnchanged (disch := first | omega | (simp <;> omega) | fail) only [go_sem, simprocAttr]
    refine wcall (c80 g) ?_
    simp -failIfUnchanged (disch := first | omega | (simp <;> omega) | fail) only [go_sem, simprocAttr]
    refine wcall hask ?_
    by_cases h' : askB b (within g 1 20) = 0
    · obtain ⟨h1, h2⟩ := askB_0.1 h'
      rw [within_iff] at h2
      have hv := val_of_check h1
      have n5 := hv.n5
      obtain ⟨Q, rfl, hQ⟩ := quarter_iff hv hq
      rw [h']
      simp -failIfUnchanged (disch := first | omega | (simp <;> omega) | fail) only [go_sem, simprocAttr]
      refine wp_loop' Nat (fun k => ⟨[(1, .int Q), (2, .int g), (3, .ptr 3 0), (22, .int k)], [(3, ⟨[IS b.sh, IS b.mo], false⟩)], [], none⟩) (fun k => k ≤ 41 ∧ ∀ j, j < k → frmP b Q g j = false) (fun k => 41 - k) 0 (by simp) (by simp -failIfUnchanged (disch := first | omega | (simp <;> omega) | fail) only [go_sem, simprocAttr]; try simp) ?_
      rintro k ⟨hk, hpre⟩
      simp -failIfUnchanged (disch := first | omega | (simp <;> omega) | fail) only [go_sem, simprocAttr]
      refine wcond_dec (fun h => ?_) (fun h => ?_)
      · have hlt : k < 41 := by omega
        have hl := hasL_len hv k
        simp -failIfUnchanged (disch := first | omega | (simp <;> omega) | fail) only [go_sem, simprocAttr]
        refine wcall (c64 b hv k (by omega)) ?_
        simp -failIfUnchanged (disch := first | omega | (simp <;> omega) | fail) only [go_sem, simprocAttr]
        refine wcond_dec (fun hb => ?_) (fun hb => ?_)
        · rw [fstA_hit hlt hpre (decide_eq_true hb)]
          simp -failIfUnchanged (disch := first | omega | (simp <;> omega) | fail) only [go_sem, simprocAttr]
        · simp -failIfUnchanged (disch := first | omega | (simp <;> omega) | fail) only [go_sem, simprocAttr]
          refine ⟨k + 1, ⟨by omega, fun j hj => ?_⟩, by dsimp only; omega, ?_⟩
          · rcases Nat.lt_or_ge j k with h1 | h1
            · exact hpre j h1
            · obtain rfl : j = k := by omega
              exact decide_eq_false hb
          · simp -failIfUnchanged (disch := first | omega | (simp <;> omega) | fail) only [go_sem, simprocAttr]
            try simp
      · have e : k = 41 := by omega
        subst e
        rw [fstA_none hpre]
        simp -failIfUnchanged (disch := first | omega | (simp <;> omega) | fail) only [go_sem, simprocAttr]
    · rw [fstA_err h']
      simp -failIfUnchanged (disch := first | omega | (simp <;> omega) | fail) only [go_sem, simprocAttr, h']

theorem c51 (b : Bx) (q g : Int) : Ctr Try.prog 51 [MB b, .int q, .int g] (frmR b q g) := by
  refine ctr_of_wp hmix Try.func51 m51 rfl ?_
  unfold v51 frmR
  have hask := c65 b (qB b q g)
  unfold qB at hask ⊢
  simp -failIfUnchanged (disch := first | omega | (simp <;> omega) | fail) only [go_sem, simprocAttr]
  refine wcall (c32 b q) ?_
  cases hq : within q 0 (w64 ((b.sh.length : Int) - 1)) with
  | false =>
    rw [hq, Bool.false_and] at hask
    have hne := ask_false b
    rw [Bool.false_and, fstA_err hne]
    simp -failIfUnchanged (disch := first | omega | (simp <;> omega) | fail) only [go_sem, simprocAttr]
    refine wcall hask ?_
    simp -failIfUnchanged (disch := first | omega | (simp <;> omega) | fail) only [go_sem, simprocAttr, hne]
  | true =>
    rw [hq, Bool.true_and] at hask
    rw [Bool.true_and]
    simp -failIfUnchanged (disch := first | omega | (simp <;> omega) | fail) only [go_sem, simprocAttr]
    refine wcall (c57 g) ?_
    simp -failIfUnchanged (disch := first | omega | (simp <;> omega) | fail) only [go_sem, simprocAttr]
    refine wcall hask ?_
    by_cases h' : askB b (within g 1 20) = 0
    · obtain ⟨h1, h2⟩ := askB_0.1 h'
      rw [within_iff] at h2
      have hv := val_of_check h1
      have n5 := hv.n5
      obtain ⟨Q, rfl, hQ⟩ := quarter_iff hv hq
      rw [h']
      simp -failIfUnchanged (disch := first | omega | (simp <;> omega) | fail) only [go_sem, simprocAttr]
      refine wp_loop' Nat (fun k => ⟨[(1, .int Q), (2, .int g), (3, .ptr 3 0), (9, .int k)], [(3, ⟨[IS b.sh, IS b.mo], false⟩)], [], none⟩) (fun k => k ≤ 41 ∧ ∀ j, j < k → frmP b Q g j = false) (fun k => 41 - k) 0 (by simp) (by simp -failIfUnchanged (disch := first | omega | (simp <;> omega) | fail) only [go_sem, simprocAttr]; try simp) ?_
      rintro k ⟨hk, hpre⟩
      simp -failIfUnchanged (disch := first | omega | (simp <;> omega) | fail) only [go_sem, simprocAttr]
      refine wcond_dec (fun h => ?_) (fun h => ?_)
      · have hlt : k < 41 := by omega
        have hl := hasL_len hv k
        simp -failIfUnchanged (disch := first | omega | (simp <;> omega) | fail) only [go_sem, simprocAttr]
        refine wcall (c66 b hv k (by omega)) ?_
        simp -failIfUnchanged (disch := first | omega | (simp <;> omega) | fail) only [go_sem, simprocAttr]
        refine wcond_dec (fun hb => ?_) (fun hb => ?_)
        · rw [fstA_hit hlt hpre (decide_eq_true hb)]
          simp -failIfUnchanged (disch := first | omega | (simp <;> omega) | fail) only [go_sem, simprocAttr]
        · simp -failIfUnchanged (disch := first | omega | (simp <;> omega) | fail) only [go_sem, simprocAttr]
          refine ⟨k + 1, ⟨by omega, fun j hj => ?_⟩, by dsimp only; omega, ?_⟩
          · rcases Nat.lt_or_ge j k with h1 | h1
            · exact hpre j h1
            · obtain rfl : j = k := by omega
              exact decide_eq_false hb
          · simp -failIfUnchanged (disch := first | omega | (simp <;> omega) | fail) only [go_sem, simprocAttr]
            try simp
      · have e : k = 41 := by omega
        subst e
        rw [fstA_none hpre]
        simp -failIfUnchanged (disch := first | omega | (simp <;> omega) | fail) only [go_sem, simprocAttr]
    · rw [fstA_err h']
      simp -failIfUnchanged (disch := first | omega | (simp <;> omega) | fail) only [go_sem, simprocAttr, h']

/-! ### Between -/
def spL (b : Bx) (lo hi : Int) (k : Nat) : List Pr := (List.range k).map fun i => ⟨at0 (hasL b lo.toNat) i, at0 (hasL b hi.toNat) i⟩
theorem spL_succ (b : Bx) (lo hi : Int) (k : Nat) : spL b lo hi (k + 1) = spL b lo hi k ++ [⟨at0 (hasL b lo.toNat) k, at0 (hasL b hi.toNat) k⟩] := by
  unfold spL
  rw [List.range_succ, List.map_append]
  rfl
def loB (lo hi : Int) : Bool := within lo 0 40 && (within hi 0 40 && decide (lo ≤ hi))
def betR (b : Bx) (lo hi : Int) : AV := .tup [PS (if askB b (loB lo hi) = 0 then spL b lo hi b.sh.length else []), .int (askB b (loB lo hi))]

theorem c52 (b : Bx) (lo hi : Int) : Ctr Try.prog 52 [MB b, .int lo, .int hi] (betR b lo hi) := by
  refine ctr_of_wp hmix Try.func52 m52 rfl ?_
  unfold v52 betR
  have hask := c62 b (loB lo hi)
  unfold loB at hask ⊢
  have hne := ask_false b
  simp -failIfUnchanged (disch := first | omega | (simp <;> omega) | fail) only [go_sem, simprocAttr]
  refine wcall (c63 lo) ?_
  cases hq : within lo 0 40 with
  | false =>
    rw [hq, Bool.false_and] at hask
    rw [Bool.false_and, if_neg hne]
    simp -failIfUnchanged (disch := first | omega | (simp <;> omega) | fail) only [go_sem, simprocAttr]
    refine wcall hask ?_
    simp -failIfUnchanged (disch := first | omega | (simp <;> omega) | fail) only [go_sem, simprocAttr, hne]
    try simp
  | true =>
    rw [hq, Bool.true_and] at hask
    rw [Bool.true_and]
    simp -failIfUnchanged (disch := first | omega | (simp <;> omega) | fail) only [go_sem, simprocAttr]
    refine wcall (c63 hi) ?_
    cases hq2 : within hi 0 40 with
    | false =>
      rw [hq2, Bool.false_and] at hask
      rw [Bool.false_and, if_neg hne]
      simp -failIfUnchanged (disch := first | omega | (simp <;> omega) | fail) only [go_sem, simprocAttr]
      refine wcall hask ?_
      simp -failIfUnchanged (disch := first | omega | (simp <;> omega) | fail) only [go_sem, simprocAttr, hne]
      try simp
    | true =>
      rw [hq2, Bool.true_and] at hask
      rw [Bool.true_and]
      simp -failIfUnchanged (disch := first | omega | (simp <;> omega) | fail) only [go_sem, simprocAttr]
      refine wcall hask ?_
      by_cases h' : askB b (decide (lo ≤ hi)) = 0
      · obtain ⟨h1, h2⟩ := askB_0.1 h'
        have h2 : lo ≤ hi := of_decide_eq_true h2
        rw [within_iff] at hq hq2
        have hv := val_of_check h1
        have n5 := hv.n5
        obtain ⟨L, rfl⟩ : ∃ n : Nat, lo = n := ⟨lo.toNat, by omega⟩
        obtain ⟨H, rfl⟩ : ∃ n : Nat, hi = n := ⟨hi.toNat, by omega⟩
        rw [h', if_pos rfl]
        have l1 := hasL_len hv L
        have l2 := hasL_len hv H
        simp -failIfUnchanged (disch := first | omega | (simp <;> omega) | fail) only [go_sem, simprocAttr]
        refine wcall (c64 b hv L (by omega)) ?_
        simp -failIfUnchanged (disch := first | omega | (simp <;> omega) | fail) only [go_sem, simprocAttr]
        refine wcall (c64 b hv H (by omega)) ?_
        simp -failIfUnchanged (disch := first | omega | (simp <;> omega) | fail) only [go_sem, simprocAttr]
        refine wp_loop' Nat (fun i => ⟨[(9, .sl 2 ((spL b L H i).map PR) (.own 9)), (10, IS (hasL b L)), (11, IS (hasL b H)), (36, .int (hasL b L).length), (37, .int i)], [], [(9, i)], none⟩) (fun i => i ≤ b.sh.length) (fun i => b.sh.length - i) 0 (by simp) (by simp -failIfUnchanged (disch := first | omega | (simp <;> omega) | fail) only [go_sem, simprocAttr]; try simp [spL]) ?_
        intro i hi
        have hi : i ≤ b.sh.length := hi
        have hel : (spL b L H i).length = i := by simp [spL]
        simp -failIfUnchanged (disch := first | omega | (simp <;> omega) | fail) only [go_sem, simprocAttr]
        refine wcond_dec (fun hc => ?_) (fun hc => ?_)
        · have hlt : i < b.sh.length := by omega
          simp -failIfUnchanged (disch := first | omega | (simp <;> omega) | fail) only [go_sem, simprocAttr, hel]
          refine ⟨i + 1, by dsimp only; omega, by dsimp only; omega, ?_⟩
          dsimp only
          rw [spL_succ]
          simp -failIfUnchanged (disch := first | omega | (simp <;> omega) | fail) only [go_sem, simprocAttr]
          simp [hel, at0]
        · have e : i = b.sh.length := by omega
          subst e
          simp -failIfUnchanged (disch := first | omega | (simp <;> omega) | fail) only [go_sem, simprocAttr]
      · rw [if_neg h']
        simp -failIfUnchanged (disch := first | omega | (simp <;> omega) | fail) only [go_sem, simprocAttr, h']
        try simp

def mnI (b : Bx) (L i k : Nat) : Int := if k = L then 20 else at0 (hasL b L) i
def mxI (b : Bx) (L i k : Nat) : Int := if k = L then 0 else at0 (hasL b (k - 1)) i

theorem mn_step {b : Bx} (hv : BV b) {L i k : Nat} (hk : L ≤ k) (hi : i < b.sh.length) : min (mnI b L i k) (at0 (hasL b k) i) = mnI b L i (k + 1) := by
  have h1 := at0_has hv k i
  have h2 := has_mono hv hk i hi
  unfold mnI
  rw [if_neg (show ¬ k + 1 = L by omega)]
  split
  · next h => subst h; omega
  · omega
theorem mx_step {b : Bx} (hv : BV b) {L i k : Nat} (hk : L ≤ k) (hi : i < b.sh.length) : max (mxI b L i k) (at0 (hasL b k) i) = mxI b L i (k + 1) := by
  have h1 := at0_has hv k i
  have h2 := has_mono hv (show k - 1 ≤ k by omega) i hi
  unfold mxI
  rw [if_neg (show ¬ k + 1 = L by omega), Nat.add_sub_cancel]
  split <;> omega

theorem c53 (b : Bx) (lo hi : Int) : Ctr Try.prog 53 [MB b, .int lo, .int hi] (betR b lo hi) := by
  refine ctr_of_wp hmix Try.func53 m53 rfl ?_
  unfold v53 betR
  have hask := c65 b (loB lo hi)
  unfold loB at hask ⊢
  have hne := ask_false b
  simp -failIfUnchanged (disch := first | omega | (simp <;> omega) | fail) only [go_sem, simprocAttr]
  refine wcall (c58 lo) ?_
  cases hq : within lo 0 40 with
  | false =>
    rw [hq, Bool.false_and] at hask
    rw [Bool.false_and, if_neg hne]
    simp -failIfUnchanged (disch := first | omega | (simp <;> omega) | fail) only [go_sem, simprocAttr]
    refine wcall hask ?_
    simp -failIfUnchanged (disch := first | omega | (simp <;> omega) | fail) only [go_sem, simprocAttr, hne]
    try simp
  | true =>
    rw [hq, Bool.true_and] at hask
    rw [Bool.true_and]
    simp -failIfUnchanged (disch := first | omega | (simp <;> omega) | fail) only [go_sem, simprocAttr]
    refine wcall (c58 hi) ?_
    cases hq2 : within hi 0 40 with
    | false =>
      rw [hq2, Bool.false_and] at hask
      rw [Bool.false_and, if_neg hne]
      simp -failIfUnchanged (disch := first | omega | (simp <;> omega) | fail) only [go_sem, simprocAttr]
      refine wcall hask ?_
      simp -failIfUnchanged (disch := first | omega | (simp <;> omega) | fail) only [go_sem, simprocAttr, hne]
      try simp
    | true =>
      rw [hq2, Bool.true_and] at hask
      rw [Bool.true_and]
      simp -failIfUnchanged (disch := first | omega | (simp <;> omega) | fail) only [go_sem, simprocAttr]
      refine wcall hask ?_
      by_cases h' : askB b (decide (lo ≤ hi)) = 0
      · obtain ⟨h1, h2⟩ := askB_0.1 h'
        have h2 : lo ≤ hi := of_decide_eq_true h2
        rw [within_iff] at hq hq2
        have hv := val_of_check h1
        have n5 := hv.n5
        obtain ⟨L, rfl⟩ : ∃ n : Nat, lo = n := ⟨lo.toNat, by omega⟩
        obtain ⟨H, rfl⟩ : ∃ n : Nat, hi = n := ⟨hi.toNat, by omega⟩
        rw [h', if_pos rfl]
        simp -failIfUnchanged (disch := first | omega | (simp <;> omega) | fail) only [go_sem, simprocAttr]
        refine wp_loop' Nat (fun i => ⟨[(1, .int L), (2, .int H), (3, .ptr 3 0), (9, .sl 2 ((spL b L H i).map PR) (.own 9)), (10, .int i)], [(3, ⟨[IS b.sh, IS b.mo], false⟩)], [(9, i)], none⟩) (fun i => i ≤ b.sh.length) (fun i => b.sh.length - i) 0 (by simp) (by simp -failIfUnchanged (disch := first | omega | (simp <;> omega) | fail) only [go_sem, simprocAttr]; try simp [spL]) ?_
        intro i hi
        have hi : i ≤ b.sh.length := hi
        have hel : (spL b L H i).length = i := by simp [spL]
        simp -failIfUnchanged (disch := first | omega | (simp <;> omega) | fail) only [go_sem, simprocAttr]
        refine wcond_dec (fun hc => ?_) (fun hc => ?_)
        · have hlt : i < b.sh.length := by omega
          simp -failIfUnchanged (disch := first | omega | (simp <;> omega) | fail) only [go_sem, simprocAttr]
          refine wp_loop' Nat (fun k => ⟨[(1, .int L), (2, .int H), (3, .ptr 3 0), (9, .sl 2 ((spL b L H i).map PR) (.own 9)), (10, .int i), (11, .ptr 11 0), (12, .int k)], [(11, ⟨[.int (mnI b L i k), .int (mxI b L i k)], false⟩), (3, ⟨[IS b.sh, IS b.mo], false⟩)], [(9, i)], none⟩) (fun k => L ≤ k ∧ k ≤ H + 1) (fun k => H + 1 - k) L (by omega) (by simp -failIfUnchanged (disch := first | omega | (simp <;> omega) | fail) only [go_sem, simprocAttr]; simp [mnI, mxI]) ?_
          rintro k ⟨hk1, hk2⟩
          simp -failIfUnchanged (disch := first | omega | (simp <;> omega) | fail) only [go_sem, simprocAttr]
          refine wcond_dec (fun hc => ?_) (fun hc => ?_)
          · have hlt2 : k ≤ H := by omega
            have hl := hasL_len hv k
            have s1 : min (mnI b L i k) ((hasL b k)[i]?.getD default) = mnI b L i (k + 1) := mn_step hv hk1 hlt
            have s2 : max (mxI b L i k) ((hasL b k)[i]?.getD default) = mxI b L i (k + 1) := mx_step hv hk1 hlt
            simp -failIfUnchanged (disch := first | omega | (simp <;> omega) | fail) only [go_sem, simprocAttr]
            refine wcall (c66 b hv k (by omega)) ?_
            simp -failIfUnchanged (disch := first | omega | (simp <;> omega) | fail) only [go_sem, simprocAttr, s1, s2]
            refine ⟨k + 1, ⟨by omega, by omega⟩, by dsimp only; omega, ?_⟩
            simp -failIfUnchanged (disch := first | omega | (simp <;> omega) | fail) only [go_sem, simprocAttr]
            try simp
          · have e : k = H + 1 := by omega
            subst e
            have e1 : mnI b L i (H + 1) = at0 (hasL b L) i := by unfold mnI; rw [if_neg (by omega)]
            have e2 : mxI b L i (H + 1) = at0 (hasL b H) i := by unfold mxI; rw [if_neg (by omega), Nat.add_sub_cancel]
            rw [e1, e2]
            simp -failIfUnchanged (disch := first | omega | (simp <;> omega) | fail) only [go_sem, simprocAttr, hel]
            refine ⟨i + 1, by dsimp only; omega, by dsimp only; omega, ?_⟩
            dsimp only
            rw [spL_succ]
            simp -failIfUnchanged (disch := first | omega | (simp <;> omega) | fail) only [go_sem, simprocAttr]
            simp [hel]
        · have e : i = b.sh.length := by omega
          subst e
          simp -failIfUnchanged (disch := first | omega | (simp <;> omega) | fail) only [go_sem, simprocAttr]
      · rw [if_neg h']
        simp -failIfUnchanged (disch := first | omega | (simp <;> omega) | fail) only [go_sem, simprocAttr, h']
        try simp

theorem c54 (a b : List Pr) (ha : a.length < 4294967296) : Ctr Try.prog 54 [PS a, PS b] (.bool (decide (a = b))) := by
  refine ctr_of_wp hmix Try.func54 m54 rfl ?_
  unfold v54
  simp -failIfUnchanged (disch := first | omega | (simp <;> omega) | fail) only [go_sem, simprocAttr]
  refine wcond_dec (fun h => ?_) (fun h => ?_)
  · simp -failIfUnchanged (disch := first | omega | (simp <;> omega) | fail) only [go_sem, simprocAttr]
    have : a ≠ b := fun e => by subst e; simp at h
    simp [this]
  · simp -failIfUnchanged (disch := first | omega | (simp <;> omega) | fail) only [go_sem, simprocAttr]
    refine wp_loop' Nat (fun i => ⟨[(0, PS a), (1, PS b), (5, .int i)], [], [], none⟩) (fun i => i ≤ a.length ∧ a.take i = b.take i) (fun i => a.length - i) 0 (by simp) (by simp -failIfUnchanged (disch := first | omega | (simp <;> omega) | fail) only [go_sem, simprocAttr]; try rfl) ?_
    rintro i ⟨hi, hpre⟩
    simp -failIfUnchanged (disch := first | omega | (simp <;> omega) | fail) only [go_sem, simprocAttr]
    have hl : a.length = b.length := by omega
    refine wcond_dec (fun h => ?_) (fun h => ?_)
    · have hlt : i < a.length := by omega
      have e1 : a[i]? = some a[i] := List.getElem?_eq_getElem (by omega)
      have e2 : b[i]? = some b[i] := List.getElem?_eq_getElem (by omega)
      simp -failIfUnchanged (disch := first | omega | (simp <;> omega) | fail) only [go_sem, simprocAttr]
      rw [e1, e2]
      simp -failIfUnchanged (disch := first | omega | (simp <;> omega) | fail) only [go_sem, simprocAttr, wbin_sne2]
      refine wcond_dec (fun h => ?_) (fun h => ?_)
      · simp -failIfUnchanged (disch := first | omega | (simp <;> omega) | fail) only [go_sem, simprocAttr]
        have : a ≠ b := fun e => by subst e; simp at h
        simp [this]
      · simp -failIfUnchanged (disch := first | omega | (simp <;> omega) | fail) only [go_sem, simprocAttr]
        refine ⟨i + 1, ⟨by omega, ?_⟩, by dsimp only; omega, ?_⟩
        · rw [List.take_add_one, List.take_add_one, hpre, e1, e2]
          simp only [Decidable.not_not, Option.getD_some] at h
          have : a[i] = b[i] := by
            obtain ⟨x1, x2⟩ := h
            cases ha : a[i]
            cases hb : b[i]
            rw [ha, hb] at x1 x2
            simp only at x1 x2
            rw [x1, x2]
          rw [this]
        · simp -failIfUnchanged (disch := first | omega | (simp <;> omega) | fail) only [go_sem, simprocAttr]
          simp
    · simp -failIfUnchanged (disch := first | omega | (simp <;> omega) | fail) only [go_sem, simprocAttr]
      have e : i = a.length := by omega
      have : a = b := by
        rw [e, List.take_length, hl, List.take_length] at hpre
        exact hpre
      simp [this]

def nedP (b : Bx) (q f g : Int) (s : Nat) : Bool := decide (g ≤ at0 (hasL (sharedB b q.toNat s) f.toNat) q.toNat)
def nedB (b : Bx) (q f g : Int) : Bool := within q 0 (w64 ((b.sh.length : Int) - 1)) && (within f 0 40 && within g 1 20)
def nedR (b : Bx) (q f g : Int) : AV := fstA (askB b (nedB b q f g)) (nedP b q f g) 21

theorem c56 (b : Bx) (q f g : Int) : Ctr Try.prog 56 [MB b, .int q, .int f, .int g] (nedR b q f g) := by
  refine ctr_of_wp hmix Try.func56 m56 rfl ?_
  unfold v56 nedR
  have hask := c65 b (nedB b q f g)
  have hne := ask_false b
  unfold nedB at hask ⊢
  simp -failIfUnchanged (disch := first | omega | (simp <;> omega) | fail) only [go_sem, simprocAttr]
  refine wcall (c32 b q) ?_
  cases hq : within q 0 (w64 ((b.sh.length : Int) - 1)) with
  | false =>
    rw [hq, Bool.false_and] at hask
    rw [Bool.false_and, fstA_err hne]
    simp -failIfUnchanged (disch := first | omega | (simp <;> omega) | fail) only [go_sem, simprocAttr]
    refine wcall hask ?_
    simp -failIfUnchanged (disch := first | omega | (simp <;> omega) | fail) only [go_sem, simprocAttr, hne]
  | true =>
    rw [hq, Bool.true_and] at hask
    rw [Bool.true_and]
    simp -failIfUnchanged (disch := first | omega | (simp <;> omega) | fail) only [go_sem, simprocAttr]
    refine wcall (c58 f) ?_
    cases hq2 : within f 0 40 with
    | false =>
      rw [hq2, Bool.false_and] at hask
      rw [Bool.false_and, fstA_err hne]
      simp -failIfUnchanged (disch := first | omega | (simp <;> omega) | fail) only [go_sem, simprocAttr]
      refine wcall hask ?_
      simp -failIfUnchanged (disch := first | omega | (simp <;> omega) | fail) only [go_sem, simprocAttr, hne]
    | true =>
      rw [hq2, Bool.true_and] at hask
      rw [Bool.true_and]
      simp -failIfUnchanged (disch := first | omega | (simp <;> omega) | fail) only [go_sem, simprocAttr]
      refine wcall (c57 g) ?_
      simp -failIfUnchanged (disch := first | omega | (simp <;> omega) | fail) only [go_sem, simprocAttr]
      refine wcall hask ?_
      by_cases h' : askB b (within g 1 20) = 0
      · obtain ⟨h1, h2⟩ := askB_0.1 h'
        rw [within_iff] at h2 hq2
        have hv := val_of_check h1
        have n5 := hv.n5
        obtain ⟨Q, rfl, hQ⟩ := quarter_iff hv hq
        obtain ⟨F, rfl⟩ : ∃ n : Nat, f = n := ⟨f.toNat, by omega⟩
        rw [h']
        simp -failIfUnchanged (disch := first | omega | (simp <;> omega) | fail) only [go_sem, simprocAttr]
        refine wp_loop' Nat (fun k => ⟨[(1, .int Q), (2, .int F), (3, .int g), (4, .ptr 4 0), (11, .int k)], [(4, ⟨[IS b.sh, IS b.mo], false⟩)], [], none⟩) (fun k => k ≤ 21 ∧ ∀ j, j < k → nedP b Q F g j = false) (fun k => 21 - k) 0 (by simp) (by simp -failIfUnchanged (disch := first | omega | (simp <;> omega) | fail) only [go_sem, simprocAttr]; try simp) ?_
        rintro k ⟨hk, hpre⟩
        simp -failIfUnchanged (disch := first | omega | (simp <;> omega) | fail) only [go_sem, simprocAttr]
        refine wcond_dec (fun h => ?_) (fun h => ?_)
        · have hlt : k < 21 := by omega
          have hvs := shared_val hv Q (s := (k : Int)) (by omega)
          have hl := hasL_len hvs F
          have hl2 : (sharedB b Q k).sh.length = b.sh.length := by simp [sharedB]
          simp -failIfUnchanged (disch := first | omega | (simp <;> omega) | fail) only [go_sem, simprocAttr]
          refine wcall (c36 b hv Q k hQ) ?_
          simp -failIfUnchanged (disch := first | omega | (simp <;> omega) | fail) only [go_sem, simprocAttr]
          refine wcall (c66 _ hvs F (by omega)) ?_
          simp -failIfUnchanged (disch := first | omega | (simp <;> omega) | fail) only [go_sem, simprocAttr]
          refine wcond_dec (fun hb => ?_) (fun hb => ?_)
          · rw [fstA_hit hlt hpre (decide_eq_true hb)]
            simp -failIfUnchanged (disch := first | omega | (simp <;> omega) | fail) only [go_sem, simprocAttr]
          · simp -failIfUnchanged (disch := first | omega | (simp <;> omega) | fail) only [go_sem, simprocAttr]
            refine ⟨k + 1, ⟨by omega, fun j hj => ?_⟩, by dsimp only; omega, ?_⟩
            · rcases Nat.lt_or_ge j k with h1 | h1
              · exact hpre j h1
              · obtain rfl : j = k := by omega
                exact decide_eq_false hb
            · simp -failIfUnchanged (disch := first | omega | (simp <;> omega) | fail) only [go_sem, simprocAttr]
              try simp
        · have e : k = 21 := by omega
          subst e
          rw [fstA_none hpre]
          simp -failIfUnchanged (disch := first | omega | (simp <;> omega) | fail) only [go_sem, simprocAttr]
      · rw [fstA_err h']
        simp -failIfUnchanged (disch := first | omega | (simp <;> omega) | fail) only [go_sem, simprocAttr, h']

end Go.Proofs.Ytbghdcleoamkiaa

/- Need of the program; MouthsFrom. -/
set_option linter.unusedSimpArgs false
set_option linter.unusedVariables false
set_option linter.unnecessarySimpa false
namespace Go.Proofs.Ytbghdcleoamkiaa
open Go Go.V

theorem c64N (b : Bx) (hv : BV b) (f : Nat) (hf : f ≤ 1000) : CtrN Try.prog 64 [MB b, .int f] (IS (hasL b f)) := by
  refine ctrN_of_wp (t := 4) (xs := hasL b f) hmix Try.func64 m64 rfl ?_
  unfold v64
  have n5 := hv.n5
  simp -failIfUnchanged (disch := first | omega | (simp <;> omega) | fail) only [go_sem, simprocAttr]
  refine wp_range' ?_
  simp -failIfUnchanged (disch := first | omega | (simp <;> omega) | fail) only [go_sem, simprocAttr]
  refine wrange fun l T hT => ?_
  refine csem_of_wp hmix Try.func69 m69 rfl rfl ?_
  unfold v69
  simp -failIfUnchanged (disch := first | omega | (simp <;> omega) | fail) only [go_sem, simprocAttr]
  refine wp_loopX Nat (fun k => ⟨[(1, .yld l), (2, .ptr 1002 0), (4, .int k)],
    [(1002, ⟨gC b (hasL b k ++ List.replicate (5 - b.sh.length) 0), false⟩), (11, ⟨(hasL b k).map .int, false⟩), (5, ⟨[.bsl 11 0 1 b.sh.length false], false⟩), (3, ⟨[.int f], false⟩)], [], none⟩)
    (fun k => k ≤ f) (fun k => f - k) 0 (by simp) ?_ (fun x => by simp -failIfUnchanged (disch := first | omega | (simp <;> omega) | fail) only [go_sem, simprocAttr]) ?_
  · simp -failIfUnchanged (disch := first | omega | (simp <;> omega) | fail) only [go_sem, simprocAttr]
    refine ⟨?_, rfl⟩
    simp only [hasL, List.replicate_append_replicate, show b.sh.length + (5 - b.sh.length) = 5 by omega]
    rfl
  intro k hk
  have hk : k ≤ f := hk
  have hl := hasL_len hv k
  have hle : (b.sh.length ≤ (hasL b k).length) = True := eq_true (by omega)
  obtain ⟨hs, hse⟩ : ∃ hs, hs = hasL b k ++ List.replicate (5 - b.sh.length) 0 := ⟨_, rfl⟩
  have hsl : hs.length = 5 := by rw [hse]; simp; omega
  have hsa : ∀ i, at0 hs i = at0 (hasL b k) i := fun i => by rw [hse, at0_app]
  have hsn : nxt b hs = nxt b (hasL b k) := by rw [hse, nxt_app]
  have c84' := c84 b hv hs hsl fun i => by have := at0_has hv k i; rw [hsa]; omega
  rw [hsn] at c84'
  rw [← hse]
  simp -failIfUnchanged (disch := first | omega | (simp <;> omega) | fail) only [go_sem, simprocAttr, hsl]
  refine wcallb c84' rfl ?_
  simp -failIfUnchanged (disch := first | omega | (simp <;> omega) | fail) only [go_sem, simprocAttr]
  refine wyield (hT _ _ _ _ _ rfl ?_)
  simp -failIfUnchanged (disch := first | omega | (simp <;> omega) | fail) only [go_sem, simprocAttr]
  refine wcond_dec (fun h1 => ?_) (fun h1 => ?_)
  · simp -failIfUnchanged (disch := first | omega | (simp <;> omega) | fail) only [go_sem, simprocAttr]
    have e : k = f := by omega
    subst e
    simp -failIfUnchanged (disch := first | omega | (simp <;> omega) | fail) only [go_sem, simprocAttr, hle, chunks_ints]
    exact ⟨11, false, by rw [hl]; rfl, rfl⟩
  · rcases hasL_succ hv k with ⟨e, es⟩ | ⟨r, e, hr, es⟩
    · rw [e]
      simp -failIfUnchanged (disch := first | omega | (simp <;> omega) | fail) only [go_sem, simprocAttr]
      refine lpx_norm ⟨k + 1, by omega, by omega, ?_, by simp -failIfUnchanged (disch := first | omega | (simp <;> omega) | fail) only [go_sem, simprocAttr]⟩
      rw [es, ← hse]
      simp -failIfUnchanged (disch := first | omega | (simp <;> omega) | fail) only [go_sem, simprocAttr]
      try simp
    · have hbr : 0 ≤ (hasL b k)[r]?.getD default ∧ (hasL b k)[r]?.getD default ≤ 20 := at0_has hv k r
      have hbr2 : 0 ≤ at0 hs r ∧ at0 hs r ≤ 20 := by rw [hsa]; exact hbr
      have hset : hs.set r (at0 hs r + 1) = (hasL b k).set r (at0 (hasL b k) r + 1) ++ List.replicate (5 - b.sh.length) 0 := by
        rw [hsa, hse, List.set_append_left _ _ (by omega)]
      rw [e]
      simp -failIfUnchanged (disch := first | omega | (simp <;> omega) | fail) only [go_sem, simprocAttr, gC_get, gC_set]
      refine lpx_norm ⟨k + 1, by omega, by omega, ?_, by simp -failIfUnchanged (disch := first | omega | (simp <;> omega) | fail) only [go_sem, simprocAttr]⟩
      rw [es, ← hset]
      simp -failIfUnchanged (disch := first | omega | (simp <;> omega) | fail) only [go_sem, simprocAttr]
      try simp

theorem c55 (b : Bx) (q f g : Int) : Ctr Try.prog 55 [MB b, .int q, .int f, .int g] (nedR b q f g) := by
  refine ctr_of_wp hmix Try.func55 m55g rfl ?_
  unfold v55g nedR
  have hask := c62 b (nedB b q f g)
  have hne := ask_false b
  unfold nedB at hask ⊢
  simp -failIfUnchanged (disch := first | omega | (simp <;> omega) | fail) only [go_sem, simprocAttr]
  refine wcall (c79 b q) ?_
  cases hq : within q 0 (w64 ((b.sh.length : Int) - 1)) with
  | false =>
    rw [hq, Bool.false_and] at hask
    rw [Bool.false_and, fstA_err hne]
    simp -failIfUnchanged (disch := first | omega | (simp <;> omega) | fail) only [go_sem, simprocAttr]
    refine wcall hask ?_
    simp -failIfUnchanged (disch := first | omega | (simp <;> omega) | fail) only [go_sem, simprocAttr, hne]
  | true =>
    rw [hq, Bool.true_and] at hask
    rw [Bool.true_and]
    simp -failIfUnchanged (disch := first | omega | (simp <;> omega) | fail) only [go_sem, simprocAttr]
    refine wcall (c63 f) ?_
    cases hq2 : within f 0 40 with
    | false =>
      rw [hq2, Bool.false_and] at hask
      rw [Bool.false_and, fstA_err hne]
      simp -failIfUnchanged (disch := first | omega | (simp <;> omega) | fail) only [go_sem, simprocAttr]
      refine wcall hask ?_
      simp -failIfUnchanged (disch := first | omega | (simp <;> omega) | fail) only [go_sem, simprocAttr, hne]
    | true =>
      rw [hq2, Bool.true_and] at hask
      rw [Bool.true_and]
      simp -failIfUnchanged (disch := first | omega | (simp <;> omega) | fail) only [go_sem, simprocAttr]
      refine wcall (c80 g) ?_
      simp -failIfUnchanged (disch := first | omega | (simp <;> omega) | fail) only [go_sem, simprocAttr]
      refine wcall hask ?_
      by_cases h' : askB b (within g 1 20) = 0
      · obtain ⟨h1, h2⟩ := askB_0.1 h'
        rw [within_iff] at h2 hq2
        have hv := val_of_check h1
        have n5 := hv.n5
        obtain ⟨Q, rfl, hQ⟩ := quarter_iff hv hq
        obtain ⟨F, rfl⟩ : ∃ n : Nat, f = n := ⟨f.toNat, by omega⟩
        have hn0 : 0 < b.sh.length := by omega
        rw [h']
        simp -failIfUnchanged (disch := first | omega | (simp <;> omega) | fail) only [go_sem, simprocAttr]
        refine wcall_in hmix Try.func81 m81g rfl ?_
        unfold v81g
        simp -failIfUnchanged (disch := first | omega | (simp <;> omega) | fail) only [go_sem, simprocAttr]
        refine wp_loop' Nat (fun k => ⟨[(1, .int Q), (2, .int F), (3, .int g), (4, .ptr 4 0), (11, .ptr (K 1 0 0) Q)], [(K 1 0 0, ⟨(b.sh.set Q k).map .int, false⟩), (4, ⟨[.gsl 1 0 0 1 b.sh.length false, IS b.mo], false⟩)], [], none⟩) (fun k => k ≤ 21 ∧ ∀ j, j < k → nedP b Q F g j = false) (fun k => 21 - k) 0 (by simp) (by simp -failIfUnchanged (disch := first | omega | (simp <;> omega) | fail) only [go_sem, simprocAttr]; try simp) ?_
        rintro k ⟨hk, hpre⟩
        have hsl : (b.sh.set Q (k : Int)).length = b.sh.length := by simp
        have hsg : (b.sh.set Q (k : Int))[Q]?.getD default = k := by
          rw [List.getElem?_set_self hQ]
          rfl
        simp -failIfUnchanged (disch := first | omega | (simp <;> omega) | fail) only [go_sem, simprocAttr, hsl, hsg]
        refine wcond_dec (fun h => ?_) (fun h => ?_)
        · have hlt : k < 21 := by omega
          have hvs := shared_val hv Q (s := (k : Int)) (by omega)
          have hl := hasL_len hvs F
          have hl2 : (sharedB b Q k).sh.length = b.sh.length := by simp [sharedB]
          have cc := c64N _ hvs F (by omega)
          simp -failIfUnchanged (disch := first | omega | (simp <;> omega) | fail) only [go_sem, simprocAttr, hsl, hsg, chunks_ints, Nat.le_refl]
          refine wcallbN cc ?_
          simp -failIfUnchanged (disch := first | omega | (simp <;> omega) | fail) only [go_sem, simprocAttr]
          refine wcond_dec (fun hb => ?_) (fun hb => ?_)
          · rw [fstA_hit hlt hpre (decide_eq_true hb)]
            simp -failIfUnchanged (disch := first | omega | (simp <;> omega) | fail) only [go_sem, simprocAttr, hsl, hsg]
          · simp -failIfUnchanged (disch := first | omega | (simp <;> omega) | fail) only [go_sem, simprocAttr, hsl, hsg]
            refine ⟨k + 1, ⟨by omega, fun j hj => ?_⟩, by dsimp only; omega, ?_⟩
            · rcases Nat.lt_or_ge j k with h1 | h1
              · exact hpre j h1
              · obtain rfl : j = k := by omega
                exact decide_eq_false hb
            · simp -failIfUnchanged (disch := first | omega | (simp <;> omega) | fail) only [go_sem, simprocAttr, hsl, hsg, List.set_set]
              try simp
        · have e : k = 21 := by omega
          subst e
          rw [fstA_none hpre]
          simp -failIfUnchanged (disch := first | omega | (simp <;> omega) | fail) only [go_sem, simprocAttr]
      · rw [fstA_err h']
        simp -failIfUnchanged (disch := first | omega | (simp <;> omega) | fail) only [go_sem, simprocAttr, h']

theorem bet_ex (b : Bx) (lo hi : Int) : ∃ (l : List Pr) (e : Int), betR b lo hi = .tup [PS l, .int e] ∧ l.length < 100 := by
  unfold betR
  refine ⟨_, _, rfl, ?_⟩
  split
  · rename_i h
    have hv := val_of_check (askB_0.1 h).1
    have := hv.n5
    simp [spL]
    omega
  · simp

theorem c13 (b : Bx) (q f o g : Int) : Ctr Try.prog 13 [MB b, .agg [.int q, .int f, .int o, .int g]] (.bool true) := by
  refine ctr_of_wp hmix Try.func13 m13 rfl ?_
  unfold v13
  simp -failIfUnchanged (disch := first | omega | (simp <;> omega) | fail) only [go_sem, simprocAttr]
  refine wcall (c15 b) ?_
  cases hf : farB b with
  | true =>
    simp -failIfUnchanged (disch := first | omega | (simp <;> omega) | fail) only [go_sem, simprocAttr]
    refine wcall c16 ?_
    simp -failIfUnchanged (disch := first | omega | (simp <;> omega) | fail) only [go_sem, simprocAttr]
  | false =>
    obtain ⟨h1, h2⟩ := far_false hf
    obtain ⟨x, e, hx⟩ := fstA_ex (askB b (qB b q g)) (frmP b q g) 41
    obtain ⟨l, e2, hl, hll⟩ := bet_ex b f o
    obtain ⟨y, e3, hy⟩ := fstA_ex (askB b (nedB b q f g)) (nedP b q f g) 21
    have a1 : Ctr Try.prog 50 _ (frmR b q g) := c50 b q g
    have a2 : Ctr Try.prog 51 _ (frmR b q g) := c51 b q g
    have a3 := c52 b f o
    have a4 := c53 b f o
    have a5 : Ctr Try.prog 55 _ (nedR b q f g) := c55 b q f g
    have a6 : Ctr Try.prog 56 _ (nedR b q f g) := c56 b q f g
    rw [frmR, hx] at a1 a2
    rw [hl] at a3 a4
    rw [nedR, hy] at a5 a6
    simp -failIfUnchanged (disch := first | omega | (simp <;> omega) | fail) only [go_sem, simprocAttr]
    refine wcall (c17 b (by omega) (by omega)) ?_
    simp -failIfUnchanged (disch := first | omega | (simp <;> omega) | fail) only [go_sem, simprocAttr]
    refine wcall a1 ?_
    simp -failIfUnchanged (disch := first | omega | (simp <;> omega) | fail) only [go_sem, simprocAttr]
    refine wcall a2 ?_
    simp -failIfUnchanged (disch := first | omega | (simp <;> omega) | fail) only [go_sem, simprocAttr]
    refine wcall a3 ?_
    simp -failIfUnchanged (disch := first | omega | (simp <;> omega) | fail) only [go_sem, simprocAttr]
    refine wcall a4 ?_
    simp -failIfUnchanged (disch := first | omega | (simp <;> omega) | fail) only [go_sem, simprocAttr, eq_self, not_true_eq_false]
    refine wcall (c54 l l (by omega)) ?_
    simp -failIfUnchanged (disch := first | omega | (simp <;> omega) | fail) only [go_sem, simprocAttr, eq_self, not_true_eq_false]
    refine wcall a5 ?_
    simp -failIfUnchanged (disch := first | omega | (simp <;> omega) | fail) only [go_sem, simprocAttr]
    refine wcall a6 ?_
    simp -failIfUnchanged (disch := first | omega | (simp <;> omega) | fail) only [go_sem, simprocAttr, eq_self]
    refine wcall (c27 b b (by omega) (by omega)) ?_
    simp -failIfUnchanged (disch := first | omega | (simp <;> omega) | fail) only [go_sem, simprocAttr, eq_self]
    refine wcall c16 ?_
    simp -failIfUnchanged (disch := first | omega | (simp <;> omega) | fail) only [go_sem, simprocAttr]

end Go.Proofs.Ytbghdcleoamkiaa
