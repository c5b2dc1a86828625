/- Merged by program: T11, T12, T13, T14, T15, T16, T17, T18, T19, T20, T21, T22, T23, T24, T25, T26, T28, T29, T30, T31. -/
import Derived.Test.YtkkiipjfbebipaaM4
import Derived.ProofKit
/- The reference: the digits of a number. -/
set_option linter.unusedSimpArgs false
set_option linter.unusedVariables false
set_option linter.unnecessarySimpa false
namespace Go.Proofs.Ytkkiipjfbebipaa
open Go Go.V

theorem zeros_ints (n : Nat) : zeros [.int 0] n = (List.replicate n (0 : Int)).map .int := by
  induction n with
  | zero => rfl
  | succ n ih => simp only [zeros, List.replicate_succ, List.map_cons, ih]; rfl

theorem setAt_ints {xs : List Int} {i : Nat} {x : Int} (h : i < xs.length) : setAt (xs.map .int) i [.int x] = (xs.set i x).map .int := by
  induction xs generalizing i with
  | nil => simp at h
  | cons w l ih =>
    cases i with
    | zero => rfl
    | succ i =>
      simp only [List.map_cons, setAt, List.set_cons_succ]
      rw [ih (by simpa using h)]

theorem map_ints {xs : List Int} {hp : List (Nat × BX)} : (xs.map AV.int).map (strip hp) = xs.map .int := by
  rw [List.map_map]
  rfl

theorem bids_ints {xs : List Int} : bids (xs.map AV.int) = [] := by
  induction xs with
  | nil => rfl
  | cons w l ih => simp only [List.map_cons, bids, AV.bid, ih, List.append_nil]

theorem scopes_ints {τ : AS} {xs : List Int} : scopes τ (xs.map AV.int) = True := by
  induction xs with
  | nil => rfl
  | cons w l ih => simp only [List.map_cons, scopes, inScope, ih, and_self]

theorem chunks_ints {xs : List Int} {n : Nat} (h : n = xs.length) : chunks false 1 (xs.map AV.int) 0 n = xs.map .int := by
  subst h
  apply List.ext_getElem?
  intro i
  rcases Nat.lt_or_ge i xs.length with hi | hi
  · rw [chunks_get _ _ _ _ _ _ hi]
    simp [chunk, hi]
  · rw [List.getElem?_eq_none (by rw [chunks_length]; exact hi), List.getElem?_eq_none (by simpa using hi)]

attribute [go_sem] zeros_ints setAt_ints map_ints bids_ints scopes_ints

/-- The digits of a number. -/
def tieN (B : Nat) : Nat → Nat → List Int
  | 0, _ => []
  | P + 1, n => tieN B P (n / B) ++ [((n % B : Nat) : Int)]

theorem tieN_len (B : Nat) : ∀ P n, (tieN B P n).length = P
  | 0, _ => rfl
  | P + 1, n => by simp [tieN, tieN_len B P]

theorem c69 (b : Bk) (hv : Val b) (n : Nat) (hn : n < 4294967296) : Ctr Try.prog 69 [KB b, .int n] (IS (tieN b.base.toNat b.places.toNat n)) := by
  refine ctr_of_wp hmix Try.func69 m69 rfl ?_
  unfold v69 IS
  obtain ⟨hb1, hb2⟩ := hv.hb
  obtain ⟨hp1, hp2⟩ := hv.hp
  obtain ⟨P, hP⟩ : ∃ P, b.places.toNat = P := ⟨_, rfl⟩
  rw [hP]
  simp (config := { failIfUnchanged := false }) (disch := first | omega | (simp [wcs_len] <;> omega) | fail) only [go_sem, ↓reduceIte, reduceCtorEq, Nat.reduceEqDiff, Nat.reduceAdd, Nat.reduceMul, Nat.reduceSub, Nat.reduceLeDiff, Int.reduceEq, Int.reduceLT, Int.reduceLE, Int.reduceAdd, Int.reduceSub, Int.reduceMul, Int.reduceNeg, Int.reduceToNat, hP]
  have em : ∀ n : Nat, Int.tmod (n : Int) b.base = ((n % b.base.toNat : Nat) : Int) := fun n => by
    obtain ⟨B, hB⟩ : ∃ B : Nat, b.base = B := ⟨b.base.toNat, by omega⟩
    rw [hB]; rfl
  have eq : ∀ n : Nat, Int.tdiv (n : Int) b.base = ((n / b.base.toNat : Nat) : Int) := fun n => by
    obtain ⟨B, hB⟩ : ∃ B : Nat, b.base = B := ⟨b.base.toNat, by omega⟩
    rw [hB]; rfl
  refine wp_loop' (Nat × Nat × List Int) (fun x => ⟨[(1, .int x.2.1), (2, .ptr 2 0), (5, .bsl 9 0 1 P false), (6, .int ((x.1 : Int) - 1))], [(9, ⟨(List.replicate x.1 (0 : Int) ++ x.2.2).map .int, false⟩), (2, ⟨[.int b.base, .int b.places, .sl 1 (b.cords.map SS) .sh, SS b.top], false⟩)], [], none⟩)
    (fun x => x.1 ≤ P ∧ x.2.1 < 4294967296 ∧ x.2.2.length = P - x.1 ∧ tieN b.base.toNat x.1 x.2.1 ++ x.2.2 = tieN b.base.toNat P n) (fun x => x.1) (P, n, []) ⟨by simp, hn, by simp, by simp⟩ ?_ ?_
  · simp (config := { failIfUnchanged := false }) (disch := first | omega | (simp [wcs_len] <;> omega) | fail) only [go_sem, ↓reduceIte, reduceCtorEq, Nat.reduceEqDiff, Nat.reduceAdd, Nat.reduceMul, Nat.reduceSub, Nat.reduceLeDiff, Int.reduceEq, Int.reduceLT, Int.reduceLE, Int.reduceAdd, Int.reduceSub, Int.reduceMul, Int.reduceNeg, Int.reduceToNat]
    omega
  · rintro ⟨q, m, suf⟩ ⟨hq, hm, hsl, hsuf⟩
    dsimp only at hq hm hsl hsuf ⊢
    simp (config := { failIfUnchanged := false }) (disch := first | omega | (simp [wcs_len] <;> omega) | fail) only [go_sem, ↓reduceIte, reduceCtorEq, Nat.reduceEqDiff, Nat.reduceAdd, Nat.reduceMul, Nat.reduceSub, Nat.reduceLeDiff, Int.reduceEq, Int.reduceLT, Int.reduceLE, Int.reduceAdd, Int.reduceSub, Int.reduceMul, Int.reduceNeg, Int.reduceToNat]
    refine wcond_dec (fun h => ?_) (fun h => ?_)
    · obtain ⟨i, rfl⟩ : ∃ i, q = i + 1 := ⟨q - 1, by omega⟩
      rw [show ((i + 1 : Nat) : Int) - 1 = (i : Int) by omega]
      have hlen : (List.replicate (i + 1) (0 : Int) ++ suf).length = P := by simp; omega
      have hset : (List.replicate (i + 1) (0 : Int) ++ suf).set i ((m % b.base.toNat : Nat) : Int) = List.replicate i 0 ++ ((m % b.base.toNat : Nat) : Int) :: suf := by
        rw [List.replicate_succ', List.append_assoc, List.set_append_right _ _ (by simp)]
        simp
      have hdiv : m / b.base.toNat ≤ m := Nat.div_le_self _ _
      obtain ⟨m2, hm2⟩ : ∃ m2, m / b.base.toNat = m2 := ⟨_, rfl⟩
      rw [hm2] at hdiv
      generalize hxs : List.replicate (i + 1) (0 : Int) ++ suf = xs at hlen hset
      simp (config := { failIfUnchanged := false }) (disch := first | omega | (simp [wcs_len] <;> omega) | fail) only [go_sem, ↓reduceIte, reduceCtorEq, Nat.reduceEqDiff, Nat.reduceAdd, Nat.reduceMul, Nat.reduceSub, Nat.reduceLeDiff, Int.reduceEq, Int.reduceLT, Int.reduceLE, Int.reduceAdd, Int.reduceSub, Int.reduceMul, Int.reduceNeg, Int.reduceToNat, em, eq, hm2, Nat.mul_one]
      refine ⟨(i, m2, ((m % b.base.toNat : Nat) : Int) :: suf), ⟨by dsimp only; omega, by dsimp only; omega, by simp only [List.length_cons]; omega, ?_⟩, by dsimp only; omega, ?_⟩
      · rw [← hsuf]
        simp [tieN, hm2]
      · simp (config := { failIfUnchanged := false }) (disch := first | omega | (simp [wcs_len] <;> omega) | fail) only [go_sem, ↓reduceIte, reduceCtorEq, Nat.reduceEqDiff, Nat.reduceAdd, Nat.reduceMul, Nat.reduceSub, Nat.reduceLeDiff, Int.reduceEq, Int.reduceLT, Int.reduceLE, Int.reduceAdd, Int.reduceSub, Int.reduceMul, Int.reduceNeg, Int.reduceToNat, hset, Nat.mul_one]
    · simp (config := { failIfUnchanged := false }) (disch := first | omega | (simp [wcs_len] <;> omega) | fail) only [go_sem, ↓reduceIte, reduceCtorEq, Nat.reduceEqDiff, Nat.reduceAdd, Nat.reduceMul, Nat.reduceSub, Nat.reduceLeDiff, Int.reduceEq, Int.reduceLT, Int.reduceLE, Int.reduceAdd, Int.reduceSub, Int.reduceMul, Int.reduceNeg, Int.reduceToNat]
      have e : q = 0 := by omega
      subst e
      simp only [List.replicate_zero, List.nil_append] at hsuf ⊢
      have hs2 : suf.length = P := by omega
      have e2 : suf = tieN b.base.toNat P n := by
        rw [← hsuf]
        rfl
      rw [if_pos (by omega), chunks_ints hs2.symm, e2]
      exact ⟨rfl, rfl⟩

end Go.Proofs.Ytkkiipjfbebipaa

/- The reference: numbers of a cord. -/
set_option linter.unusedSimpArgs false
set_option linter.unusedVariables false
set_option linter.unnecessarySimpa false
namespace Go.Proofs.Ytkkiipjfbebipaa
open Go Go.V

theorem allN_le {b : Bk} (hv : Val b) : allN b ≤ 10000 := by
  obtain ⟨hb1, hb2⟩ := hv.hb
  obtain ⟨hp1, hp2⟩ := hv.hp
  exact pow_le (by omega) (by omega)

def sumL (l : List Int) : Int := l.foldl (fun n d => w64 (n + d)) 0

theorem c103 (l : List Int) (hl : l.length < 4294967296) : Ctr Try.prog 103 [IS l] (.int (sumL l)) := by
  refine ctr_of_wp hmix Try.func103 m103 rfl ?_
  unfold v103 IS
  simp (config := { failIfUnchanged := false }) (disch := first | omega | (simp [wcs_len] <;> omega) | fail) only [go_sem, ↓reduceIte, reduceCtorEq, Nat.reduceEqDiff, Nat.reduceAdd, Nat.reduceMul, Nat.reduceSub, Nat.reduceLeDiff, Int.reduceEq, Int.reduceLT, Int.reduceLE, Int.reduceAdd, Int.reduceSub, Int.reduceMul, Int.reduceNeg, Int.reduceToNat]
  refine wp_loop' (Nat × Int) (fun x => ⟨[(0, IS l), (3, .int x.2), (4, .int x.1)], [], [], none⟩) (fun x => x.1 ≤ l.length ∧ x.2 = sumL (l.take x.1)) (fun x => l.length - x.1) (0, 0) (by simp [sumL]) (by unfold IS; simp (config := { failIfUnchanged := false }) (disch := first | omega | (simp [wcs_len] <;> omega) | fail) only [go_sem, ↓reduceIte, reduceCtorEq, Nat.reduceEqDiff, Nat.reduceAdd, Nat.reduceMul, Nat.reduceSub, Nat.reduceLeDiff, Int.reduceEq, Int.reduceLT, Int.reduceLE, Int.reduceAdd, Int.reduceSub, Int.reduceMul, Int.reduceNeg, Int.reduceToNat]; simp) ?_
  rintro ⟨i, n⟩ ⟨hi, hn⟩
  dsimp only at hi hn ⊢
  unfold IS
  simp (config := { failIfUnchanged := false }) (disch := first | omega | (simp [wcs_len] <;> omega) | fail) only [go_sem, ↓reduceIte, reduceCtorEq, Nat.reduceEqDiff, Nat.reduceAdd, Nat.reduceMul, Nat.reduceSub, Nat.reduceLeDiff, Int.reduceEq, Int.reduceLT, Int.reduceLE, Int.reduceAdd, Int.reduceSub, Int.reduceMul, Int.reduceNeg, Int.reduceToNat]
  refine wcond_dec (fun h => ?_) (fun h => ?_)
  · have hlt : i < l.length := by omega
    simp (config := { failIfUnchanged := false }) (disch := first | omega | (simp [wcs_len] <;> omega) | fail) only [go_sem, ↓reduceIte, reduceCtorEq, Nat.reduceEqDiff, Nat.reduceAdd, Nat.reduceMul, Nat.reduceSub, Nat.reduceLeDiff, Int.reduceEq, Int.reduceLT, Int.reduceLE, Int.reduceAdd, Int.reduceSub, Int.reduceMul, Int.reduceNeg, Int.reduceToNat]
    refine ⟨(i + 1, sumL (l.take (i + 1))), ⟨by omega, rfl⟩, by dsimp only; omega, ?_⟩
    have e : sumL (l.take (i + 1)) = w64 (n + l[i]?.getD default) := by
      rw [hn]
      unfold sumL
      rw [List.take_add_one, List.getElem?_eq_getElem hlt, List.foldl_append]
      rfl
    rw [e]
    simp (config := { failIfUnchanged := false }) (disch := first | omega | (simp [wcs_len] <;> omega) | fail) only [go_sem, ↓reduceIte, reduceCtorEq, Nat.reduceEqDiff, Nat.reduceAdd, Nat.reduceMul, Nat.reduceSub, Nat.reduceLeDiff, Int.reduceEq, Int.reduceLT, Int.reduceLE, Int.reduceAdd, Int.reduceSub, Int.reduceMul, Int.reduceNeg, Int.reduceToNat]
    simp
  · simp (config := { failIfUnchanged := false }) (disch := first | omega | (simp [wcs_len] <;> omega) | fail) only [go_sem, ↓reduceIte, reduceCtorEq, Nat.reduceEqDiff, Nat.reduceAdd, Nat.reduceMul, Nat.reduceSub, Nat.reduceLeDiff, Int.reduceEq, Int.reduceLT, Int.reduceLE, Int.reduceAdd, Int.reduceSub, Int.reduceMul, Int.reduceNeg, Int.reduceToNat]
    have e : i = l.length := by omega
    rw [hn, e, List.take_length]

def isN (b : Bk) (cord : Nat) (freely : Bool) (n : Nat) : Bool := freely || fitsL (cordAt b cord) (tieN b.base.toNat b.places.toNat n)
def numsL (b : Bk) (cord : Nat) (freely : Bool) (m : Nat) : List Int := ((List.range m).filter (isN b cord freely)).map (fun n : Nat => (n : Int))

theorem numsL_succ {b : Bk} {cord : Nat} {freely : Bool} {m : Nat} : numsL b cord freely (m + 1) = if isN b cord freely m then numsL b cord freely m ++ [(m : Int)] else numsL b cord freely m := by
  unfold numsL
  rw [List.range_succ, List.filter_append]
  cases h : isN b cord freely m <;> simp [h]

theorem numsL_len {b : Bk} {cord : Nat} {freely : Bool} {m : Nat} : (numsL b cord freely m).length ≤ m := by
  unfold numsL
  rw [List.length_map]
  exact Nat.le_trans (List.length_filter_le _ _) (by simp)

theorem cordAt_val {b : Bk} (hv : Val b) {n : Nat} (hn : n ≤ b.cords.length) : ((cordAt b n).length : Int) = b.places ∧ ∀ s ∈ cordAt b n, 0 ≤ s.lo ∧ s.lo ≤ s.hi ∧ s.hi < b.base := by
  unfold cordAt
  split
  · exact hv.top
  · have hlt : n < b.cords.length := by omega
    exact hv.cord _ (mem_getD hlt)

theorem c104 (b : Bk) (hv : Val b) (cord : Nat) (hc : cord ≤ b.cords.length) (freely : Bool) : Ctr Try.prog 104 [KB b, .int cord, .bool freely] (IS (numsL b cord freely (allN b))) := by
  refine ctr_of_wp hmix Try.func104 m104 rfl ?_
  unfold v104 IS
  have hall := allN_le hv
  obtain ⟨hp1, hp2⟩ := hv.hp
  simp (config := { failIfUnchanged := false }) (disch := first | omega | (simp [wcs_len] <;> omega) | fail) only [go_sem, ↓reduceIte, reduceCtorEq, Nat.reduceEqDiff, Nat.reduceAdd, Nat.reduceMul, Nat.reduceSub, Nat.reduceLeDiff, Int.reduceEq, Int.reduceLT, Int.reduceLE, Int.reduceAdd, Int.reduceSub, Int.reduceMul, Int.reduceNeg, Int.reduceToNat]
  refine wp_loop' Nat (fun i => ⟨[(1, .int cord), (2, .bool freely), (3, .ptr 3 0), (7, .sl 1 ((numsL b cord freely i).map .int) (.own 7)), (8, .int i)], [(3, ⟨[.int b.base, .int b.places, .sl 1 (b.cords.map SS) .sh, SS b.top], false⟩)], [(7, (numsL b cord freely i).length)], none⟩) (fun i => i ≤ allN b) (fun i => allN b - i) 0 (by simp) (by simp (config := { failIfUnchanged := false }) (disch := first | omega | (simp [wcs_len] <;> omega) | fail) only [go_sem, ↓reduceIte, reduceCtorEq, Nat.reduceEqDiff, Nat.reduceAdd, Nat.reduceMul, Nat.reduceSub, Nat.reduceLeDiff, Int.reduceEq, Int.reduceLT, Int.reduceLE, Int.reduceAdd, Int.reduceSub, Int.reduceMul, Int.reduceNeg, Int.reduceToNat]; simp [numsL]) ?_
  intro i hi
  have hnl : (numsL b cord freely i).length ≤ i := numsL_len
  simp (config := { failIfUnchanged := false }) (disch := first | omega | (simp [wcs_len] <;> omega) | fail) only [go_sem, ↓reduceIte, reduceCtorEq, Nat.reduceEqDiff, Nat.reduceAdd, Nat.reduceMul, Nat.reduceSub, Nat.reduceLeDiff, Int.reduceEq, Int.reduceLT, Int.reduceLE, Int.reduceAdd, Int.reduceSub, Int.reduceMul, Int.reduceNeg, Int.reduceToNat]
  refine wcall (c41 b hv) ?_
  simp (config := { failIfUnchanged := false }) (disch := first | omega | (simp [wcs_len] <;> omega) | fail) only [go_sem, ↓reduceIte, reduceCtorEq, Nat.reduceEqDiff, Nat.reduceAdd, Nat.reduceMul, Nat.reduceSub, Nat.reduceLeDiff, Int.reduceEq, Int.reduceLT, Int.reduceLE, Int.reduceAdd, Int.reduceSub, Int.reduceMul, Int.reduceNeg, Int.reduceToNat]
  refine wcond_dec (fun h => ?_) (fun h => ?_)
  · simp (config := { failIfUnchanged := false }) (disch := first | omega | (simp [wcs_len] <;> omega) | fail) only [go_sem, ↓reduceIte, reduceCtorEq, Nat.reduceEqDiff, Nat.reduceAdd, Nat.reduceMul, Nat.reduceSub, Nat.reduceLeDiff, Int.reduceEq, Int.reduceLT, Int.reduceLE, Int.reduceAdd, Int.reduceSub, Int.reduceMul, Int.reduceNeg, Int.reduceToNat]
    cases freely with
    | true =>
      simp (config := { failIfUnchanged := false }) (disch := first | omega | (simp [wcs_len] <;> omega) | fail) only [go_sem, ↓reduceIte, reduceCtorEq, Nat.reduceEqDiff, Nat.reduceAdd, Nat.reduceMul, Nat.reduceSub, Nat.reduceLeDiff, Int.reduceEq, Int.reduceLT, Int.reduceLE, Int.reduceAdd, Int.reduceSub, Int.reduceMul, Int.reduceNeg, Int.reduceToNat]
      refine ⟨i + 1, by omega, by dsimp only; omega, ?_⟩
      dsimp only
      rw [numsL_succ]
      simp (config := { failIfUnchanged := false }) (disch := first | omega | (simp [wcs_len] <;> omega) | fail) only [go_sem, ↓reduceIte, reduceCtorEq, Nat.reduceEqDiff, Nat.reduceAdd, Nat.reduceMul, Nat.reduceSub, Nat.reduceLeDiff, Int.reduceEq, Int.reduceLT, Int.reduceLE, Int.reduceAdd, Int.reduceSub, Int.reduceMul, Int.reduceNeg, Int.reduceToNat]
      simp [isN]
    | false =>
      simp (config := { failIfUnchanged := false }) (disch := first | omega | (simp [wcs_len] <;> omega) | fail) only [go_sem, ↓reduceIte, reduceCtorEq, Nat.reduceEqDiff, Nat.reduceAdd, Nat.reduceMul, Nat.reduceSub, Nat.reduceLeDiff, Int.reduceEq, Int.reduceLT, Int.reduceLE, Int.reduceAdd, Int.reduceSub, Int.reduceMul, Int.reduceNeg, Int.reduceToNat]
      refine wcall (c32 b cord hc) ?_
      simp (config := { failIfUnchanged := false }) (disch := first | omega | (simp [wcs_len] <;> omega) | fail) only [go_sem, ↓reduceIte, reduceCtorEq, Nat.reduceEqDiff, Nat.reduceAdd, Nat.reduceMul, Nat.reduceSub, Nat.reduceLeDiff, Int.reduceEq, Int.reduceLT, Int.reduceLE, Int.reduceAdd, Int.reduceSub, Int.reduceMul, Int.reduceNeg, Int.reduceToNat]
      refine wcall (c69 b hv i (by omega)) ?_
      simp (config := { failIfUnchanged := false }) (disch := first | omega | (simp [wcs_len] <;> omega) | fail) only [go_sem, ↓reduceIte, reduceCtorEq, Nat.reduceEqDiff, Nat.reduceAdd, Nat.reduceMul, Nat.reduceSub, Nat.reduceLeDiff, Int.reduceEq, Int.reduceLT, Int.reduceLE, Int.reduceAdd, Int.reduceSub, Int.reduceMul, Int.reduceNeg, Int.reduceToNat]
      have hcv := (cordAt_val hv hc).1
      refine wcall (c99 (cordAt b cord) (tieN b.base.toNat b.places.toNat i) (by omega) (by rw [tieN_len]; omega)) ?_
      simp (config := { failIfUnchanged := false }) (disch := first | omega | (simp [wcs_len] <;> omega) | fail) only [go_sem, ↓reduceIte, reduceCtorEq, Nat.reduceEqDiff, Nat.reduceAdd, Nat.reduceMul, Nat.reduceSub, Nat.reduceLeDiff, Int.reduceEq, Int.reduceLT, Int.reduceLE, Int.reduceAdd, Int.reduceSub, Int.reduceMul, Int.reduceNeg, Int.reduceToNat]
      have ei : isN b cord false i = fitsL (cordAt b cord) (tieN b.base.toNat b.places.toNat i) := by simp [isN]
      refine wcond_bool (fun hb => ?_) (fun hb => ?_)
      · simp (config := { failIfUnchanged := false }) (disch := first | omega | (simp [wcs_len] <;> omega) | fail) only [go_sem, ↓reduceIte, reduceCtorEq, Nat.reduceEqDiff, Nat.reduceAdd, Nat.reduceMul, Nat.reduceSub, Nat.reduceLeDiff, Int.reduceEq, Int.reduceLT, Int.reduceLE, Int.reduceAdd, Int.reduceSub, Int.reduceMul, Int.reduceNeg, Int.reduceToNat]
        refine ⟨i + 1, by omega, by dsimp only; omega, ?_⟩
        dsimp only
        rw [numsL_succ, ei, hb]
        simp (config := { failIfUnchanged := false }) (disch := first | omega | (simp [wcs_len] <;> omega) | fail) only [go_sem, ↓reduceIte, reduceCtorEq, Nat.reduceEqDiff, Nat.reduceAdd, Nat.reduceMul, Nat.reduceSub, Nat.reduceLeDiff, Int.reduceEq, Int.reduceLT, Int.reduceLE, Int.reduceAdd, Int.reduceSub, Int.reduceMul, Int.reduceNeg, Int.reduceToNat]
        simp
      · simp (config := { failIfUnchanged := false }) (disch := first | omega | (simp [wcs_len] <;> omega) | fail) only [go_sem, ↓reduceIte, reduceCtorEq, Nat.reduceEqDiff, Nat.reduceAdd, Nat.reduceMul, Nat.reduceSub, Nat.reduceLeDiff, Int.reduceEq, Int.reduceLT, Int.reduceLE, Int.reduceAdd, Int.reduceSub, Int.reduceMul, Int.reduceNeg, Int.reduceToNat]
        refine ⟨i + 1, by omega, by dsimp only; omega, ?_⟩
        dsimp only
        rw [numsL_succ, ei, hb]
        simp (config := { failIfUnchanged := false }) (disch := first | omega | (simp [wcs_len] <;> omega) | fail) only [go_sem, ↓reduceIte, reduceCtorEq, Nat.reduceEqDiff, Nat.reduceAdd, Nat.reduceMul, Nat.reduceSub, Nat.reduceLeDiff, Int.reduceEq, Int.reduceLT, Int.reduceLE, Int.reduceAdd, Int.reduceSub, Int.reduceMul, Int.reduceNeg, Int.reduceToNat]
        simp
  · simp (config := { failIfUnchanged := false }) (disch := first | omega | (simp [wcs_len] <;> omega) | fail) only [go_sem, ↓reduceIte, reduceCtorEq, Nat.reduceEqDiff, Nat.reduceAdd, Nat.reduceMul, Nat.reduceSub, Nat.reduceLeDiff, Int.reduceEq, Int.reduceLT, Int.reduceLE, Int.reduceAdd, Int.reduceSub, Int.reduceMul, Int.reduceNeg, Int.reduceToNat]
    have e : i = allN b := by omega
    rw [e]

end Go.Proofs.Ytkkiipjfbebipaa

/- The reference: all lists of numbers. -/
set_option linter.unusedSimpArgs false
set_option linter.unusedVariables false
set_option linter.unnecessarySimpa false
namespace Go.Proofs.Ytkkiipjfbebipaa
open Go Go.V

abbrev ISS (ls : List (List Int)) : AV := .sl 1 (ls.map IS) .sh
abbrev nat (l : List Nat) : List Int := l.map (fun n : Nat => (n : Int))

/-- All lists that begin with some numbers, k cords being left. -/
def sumsF (b : Bk) (freely : Bool) : Nat → List Nat → List (List Int)
  | 0, first => if first.sum < allN b && (freely || fitsL b.top (tieN b.base.toNat b.places.toNat first.sum)) then [nat (first ++ [first.sum])] else []
  | k + 1, first => ((List.range (allN b)).filter (isN b first.length freely)).flatMap fun n => sumsF b freely k (first ++ [n])

theorem sumL_nat {l : List Nat} (h : l.sum < 4294967296) : sumL (nat l) = l.sum := by
  have key : ∀ (l : List Nat) (a : Nat), a + l.sum < 4294967296 → (nat l).foldl (fun n d => w64 (n + d)) (a : Int) = ((a + l.sum : Nat) : Int) := by
    intro l
    induction l with
    | nil => intro a _; simp
    | cons x r ih =>
      intro a ha
      simp only [List.sum_cons] at ha
      simp only [nat, List.map_cons, List.foldl_cons, List.sum_cons]
      rw [w64_id (by omega), show (a : Int) + (x : Int) = ((a + x : Nat) : Int) by omega]
      rw [ih (a + x) (by omega)]
      congr 1
      omega
  have := key l 0 (by omega)
  simpa [sumL] using this

theorem c68 (b : Bk) (hv : Val b) (freely : Bool) : ∀ (k : Nat) (first : List Nat), first.length + k = b.cords.length → (∀ x ∈ first, x ≤ 10000) → (sumsF b freely k first).length < 4294967296 →
    Ctr Try.prog 68 [KB b, IS (nat first), .bool freely] (ISS (sumsF b freely k first)) := by
  intro k
  induction k with
  | zero =>
    intro first hk hx hlen
    refine ctr_of_wp hmix Try.func68 m68 rfl ?_
    unfold v68
    have hc4 := hv.hc
    have hall := allN_le hv
    obtain ⟨hp1, hp2⟩ := hv.hp
    have hnl : (nat first).length = b.cords.length := by simp; omega
    have hsum : first.sum ≤ 40000 := by
      have : ∀ l : List Nat, (∀ x ∈ l, x ≤ 10000) → l.sum ≤ l.length * 10000 := by
        intro l
        induction l with
        | nil => simp
        | cons x r ih =>
          intro h
          have h1 := h x (by simp)
          have h2 := ih fun y hy => h y (by simp [hy])
          simp only [List.sum_cons, List.length_cons, Nat.add_mul]
          omega
      have := this first hx
      omega
    simp (config := { failIfUnchanged := false }) (disch := first | omega | (simp only [List.length_map, List.length_append, List.length_cons, List.length_nil, List.length_take, List.length_drop, cells_int, cells_bool, cells_agg, cells_sl, cells_clo, cells_und, wcs_len, List.length_replicate, List.length_set]; done) | (simp only [List.length_map, List.length_append, List.length_cons, List.length_nil, List.length_take, List.length_drop, cells_int, cells_bool, cells_agg, cells_sl, cells_clo, cells_und, wcs_len, List.length_replicate, List.length_set]; omega)) only [go_sem, ↓reduceIte, reduceCtorEq, Nat.reduceEqDiff, Nat.reduceAdd, Nat.reduceMul, Nat.reduceSub, Nat.reduceLeDiff, Int.reduceEq, Int.reduceLT, Int.reduceLE, Int.reduceAdd, Int.reduceSub, Int.reduceMul, Int.reduceNeg, Int.reduceToNat]
    refine wcond_dec (fun h => ?_) (fun h => ?_)
    · simp (config := { failIfUnchanged := false }) (disch := first | omega | (simp only [List.length_map, List.length_append, List.length_cons, List.length_nil, List.length_take, List.length_drop, cells_int, cells_bool, cells_agg, cells_sl, cells_clo, cells_und, wcs_len, List.length_replicate, List.length_set]; done) | (simp only [List.length_map, List.length_append, List.length_cons, List.length_nil, List.length_take, List.length_drop, cells_int, cells_bool, cells_agg, cells_sl, cells_clo, cells_und, wcs_len, List.length_replicate, List.length_set]; omega)) only [go_sem, ↓reduceIte, reduceCtorEq, Nat.reduceEqDiff, Nat.reduceAdd, Nat.reduceMul, Nat.reduceSub, Nat.reduceLeDiff, Int.reduceEq, Int.reduceLT, Int.reduceLE, Int.reduceAdd, Int.reduceSub, Int.reduceMul, Int.reduceNeg, Int.reduceToNat]
      refine wcall (c103 (nat first) (by simp; omega)) ?_
      rw [sumL_nat (by omega)]
      simp (config := { failIfUnchanged := false }) (disch := first | omega | (simp only [List.length_map, List.length_append, List.length_cons, List.length_nil, List.length_take, List.length_drop, cells_int, cells_bool, cells_agg, cells_sl, cells_clo, cells_und, wcs_len, List.length_replicate, List.length_set]; done) | (simp only [List.length_map, List.length_append, List.length_cons, List.length_nil, List.length_take, List.length_drop, cells_int, cells_bool, cells_agg, cells_sl, cells_clo, cells_und, wcs_len, List.length_replicate, List.length_set]; omega)) only [go_sem, ↓reduceIte, reduceCtorEq, Nat.reduceEqDiff, Nat.reduceAdd, Nat.reduceMul, Nat.reduceSub, Nat.reduceLeDiff, Int.reduceEq, Int.reduceLT, Int.reduceLE, Int.reduceAdd, Int.reduceSub, Int.reduceMul, Int.reduceNeg, Int.reduceToNat]
      refine wcall (c41 b hv) ?_
      have htl : b.top.length ≤ 4 := by have := hv.top.1; omega
      simp (config := { failIfUnchanged := false }) (disch := first | omega | (simp only [List.length_map, List.length_append, List.length_cons, List.length_nil, List.length_take, List.length_drop, cells_int, cells_bool, cells_agg, cells_sl, cells_clo, cells_und, wcs_len, List.length_replicate, List.length_set]; done) | (simp only [List.length_map, List.length_append, List.length_cons, List.length_nil, List.length_take, List.length_drop, cells_int, cells_bool, cells_agg, cells_sl, cells_clo, cells_und, wcs_len, List.length_replicate, List.length_set]; omega)) only [go_sem, ↓reduceIte, reduceCtorEq, Nat.reduceEqDiff, Nat.reduceAdd, Nat.reduceMul, Nat.reduceSub, Nat.reduceLeDiff, Int.reduceEq, Int.reduceLT, Int.reduceLE, Int.reduceAdd, Int.reduceSub, Int.reduceMul, Int.reduceNeg, Int.reduceToNat]
      cases freely with
      | true =>
        refine WGd_bool (fun h2 => ?_) (fun h2 => ?_)
        · simp (config := { failIfUnchanged := false }) (disch := first | omega | (simp only [List.length_map, List.length_append, List.length_cons, List.length_nil, List.length_take, List.length_drop, cells_int, cells_bool, cells_agg, cells_sl, cells_clo, cells_und, wcs_len, List.length_replicate, List.length_set]; done) | (simp only [List.length_map, List.length_append, List.length_cons, List.length_nil, List.length_take, List.length_drop, cells_int, cells_bool, cells_agg, cells_sl, cells_clo, cells_und, wcs_len, List.length_replicate, List.length_set]; omega)) only [go_sem, ↓reduceIte, reduceCtorEq, Nat.reduceEqDiff, Nat.reduceAdd, Nat.reduceMul, Nat.reduceSub, Nat.reduceLeDiff, Int.reduceEq, Int.reduceLT, Int.reduceLE, Int.reduceAdd, Int.reduceSub, Int.reduceMul, Int.reduceNeg, Int.reduceToNat, h2]
          simp only [decide_eq_false_iff_not] at h2
          have hs : first.sum < allN b := by omega
          simp [sumsF, hs]
        · simp (config := { failIfUnchanged := false }) (disch := first | omega | (simp only [List.length_map, List.length_append, List.length_cons, List.length_nil, List.length_take, List.length_drop, cells_int, cells_bool, cells_agg, cells_sl, cells_clo, cells_und, wcs_len, List.length_replicate, List.length_set]; done) | (simp only [List.length_map, List.length_append, List.length_cons, List.length_nil, List.length_take, List.length_drop, cells_int, cells_bool, cells_agg, cells_sl, cells_clo, cells_und, wcs_len, List.length_replicate, List.length_set]; omega)) only [go_sem, ↓reduceIte, reduceCtorEq, Nat.reduceEqDiff, Nat.reduceAdd, Nat.reduceMul, Nat.reduceSub, Nat.reduceLeDiff, Int.reduceEq, Int.reduceLT, Int.reduceLE, Int.reduceAdd, Int.reduceSub, Int.reduceMul, Int.reduceNeg, Int.reduceToNat, h2]
          simp only [Bool.not_false, decide_eq_true_eq] at h2
          have hs : ¬ first.sum < allN b := by omega
          simp [sumsF, hs]
      | false =>
        refine WGd_bool (fun h2 => ?_) (fun h2 => ?_)
        · simp (config := { failIfUnchanged := false }) (disch := first | omega | (simp only [List.length_map, List.length_append, List.length_cons, List.length_nil, List.length_take, List.length_drop, cells_int, cells_bool, cells_agg, cells_sl, cells_clo, cells_und, wcs_len, List.length_replicate, List.length_set]; done) | (simp only [List.length_map, List.length_append, List.length_cons, List.length_nil, List.length_take, List.length_drop, cells_int, cells_bool, cells_agg, cells_sl, cells_clo, cells_und, wcs_len, List.length_replicate, List.length_set]; omega)) only [go_sem, ↓reduceIte, reduceCtorEq, Nat.reduceEqDiff, Nat.reduceAdd, Nat.reduceMul, Nat.reduceSub, Nat.reduceLeDiff, Int.reduceEq, Int.reduceLT, Int.reduceLE, Int.reduceAdd, Int.reduceSub, Int.reduceMul, Int.reduceNeg, Int.reduceToNat, h2]
          simp only [decide_eq_false_iff_not] at h2
          have hs : first.sum < allN b := by omega
          refine wcall (c69 b hv first.sum (by omega)) ?_
          simp (config := { failIfUnchanged := false }) (disch := first | omega | (simp only [List.length_map, List.length_append, List.length_cons, List.length_nil, List.length_take, List.length_drop, cells_int, cells_bool, cells_agg, cells_sl, cells_clo, cells_und, wcs_len, List.length_replicate, List.length_set]; done) | (simp only [List.length_map, List.length_append, List.length_cons, List.length_nil, List.length_take, List.length_drop, cells_int, cells_bool, cells_agg, cells_sl, cells_clo, cells_und, wcs_len, List.length_replicate, List.length_set]; omega)) only [go_sem, ↓reduceIte, reduceCtorEq, Nat.reduceEqDiff, Nat.reduceAdd, Nat.reduceMul, Nat.reduceSub, Nat.reduceLeDiff, Int.reduceEq, Int.reduceLT, Int.reduceLE, Int.reduceAdd, Int.reduceSub, Int.reduceMul, Int.reduceNeg, Int.reduceToNat]
          refine wcall (c99 b.top (tieN b.base.toNat b.places.toNat first.sum) (by omega) (by rw [tieN_len]; have := hv.top.1; omega)) ?_
          simp (config := { failIfUnchanged := false }) (disch := first | omega | (simp only [List.length_map, List.length_append, List.length_cons, List.length_nil, List.length_take, List.length_drop, cells_int, cells_bool, cells_agg, cells_sl, cells_clo, cells_und, wcs_len, List.length_replicate, List.length_set]; done) | (simp only [List.length_map, List.length_append, List.length_cons, List.length_nil, List.length_take, List.length_drop, cells_int, cells_bool, cells_agg, cells_sl, cells_clo, cells_und, wcs_len, List.length_replicate, List.length_set]; omega)) only [go_sem, ↓reduceIte, reduceCtorEq, Nat.reduceEqDiff, Nat.reduceAdd, Nat.reduceMul, Nat.reduceSub, Nat.reduceLeDiff, Int.reduceEq, Int.reduceLT, Int.reduceLE, Int.reduceAdd, Int.reduceSub, Int.reduceMul, Int.reduceNeg, Int.reduceToNat]
          refine wcond_bool (fun h3 => ?_) (fun h3 => ?_)
          · simp (config := { failIfUnchanged := false }) (disch := first | omega | (simp only [List.length_map, List.length_append, List.length_cons, List.length_nil, List.length_take, List.length_drop, cells_int, cells_bool, cells_agg, cells_sl, cells_clo, cells_und, wcs_len, List.length_replicate, List.length_set]; done) | (simp only [List.length_map, List.length_append, List.length_cons, List.length_nil, List.length_take, List.length_drop, cells_int, cells_bool, cells_agg, cells_sl, cells_clo, cells_und, wcs_len, List.length_replicate, List.length_set]; omega)) only [go_sem, ↓reduceIte, reduceCtorEq, Nat.reduceEqDiff, Nat.reduceAdd, Nat.reduceMul, Nat.reduceSub, Nat.reduceLeDiff, Int.reduceEq, Int.reduceLT, Int.reduceLE, Int.reduceAdd, Int.reduceSub, Int.reduceMul, Int.reduceNeg, Int.reduceToNat]
            have h4 : fitsL b.top (tieN b.base.toNat b.places.toNat first.sum) = false := by simpa using h3
            simp [sumsF, h4]
          · simp (config := { failIfUnchanged := false }) (disch := first | omega | (simp only [List.length_map, List.length_append, List.length_cons, List.length_nil, List.length_take, List.length_drop, cells_int, cells_bool, cells_agg, cells_sl, cells_clo, cells_und, wcs_len, List.length_replicate, List.length_set]; done) | (simp only [List.length_map, List.length_append, List.length_cons, List.length_nil, List.length_take, List.length_drop, cells_int, cells_bool, cells_agg, cells_sl, cells_clo, cells_und, wcs_len, List.length_replicate, List.length_set]; omega)) only [go_sem, ↓reduceIte, reduceCtorEq, Nat.reduceEqDiff, Nat.reduceAdd, Nat.reduceMul, Nat.reduceSub, Nat.reduceLeDiff, Int.reduceEq, Int.reduceLT, Int.reduceLE, Int.reduceAdd, Int.reduceSub, Int.reduceMul, Int.reduceNeg, Int.reduceToNat]
            have h4 : fitsL b.top (tieN b.base.toNat b.places.toNat first.sum) = true := by simpa using h3
            simp [sumsF, hs, h4]
        · simp (config := { failIfUnchanged := false }) (disch := first | omega | (simp only [List.length_map, List.length_append, List.length_cons, List.length_nil, List.length_take, List.length_drop, cells_int, cells_bool, cells_agg, cells_sl, cells_clo, cells_und, wcs_len, List.length_replicate, List.length_set]; done) | (simp only [List.length_map, List.length_append, List.length_cons, List.length_nil, List.length_take, List.length_drop, cells_int, cells_bool, cells_agg, cells_sl, cells_clo, cells_und, wcs_len, List.length_replicate, List.length_set]; omega)) only [go_sem, ↓reduceIte, reduceCtorEq, Nat.reduceEqDiff, Nat.reduceAdd, Nat.reduceMul, Nat.reduceSub, Nat.reduceLeDiff, Int.reduceEq, Int.reduceLT, Int.reduceLE, Int.reduceAdd, Int.reduceSub, Int.reduceMul, Int.reduceNeg, Int.reduceToNat, h2]
          simp only [Bool.not_false, decide_eq_true_eq] at h2
          have hs : ¬ first.sum < allN b := by omega
          simp [sumsF, hs]
    · exact absurd (by omega) h
  | succ k ih =>
    intro first hk hx hlen
    refine ctr_of_wp hmix Try.func68 m68 rfl ?_
    unfold v68
    have hc4 := hv.hc
    have hall := allN_le hv
    simp (config := { failIfUnchanged := false }) (disch := first | omega | (simp only [List.length_map, List.length_append, List.length_cons, List.length_nil, List.length_take, List.length_drop, cells_int, cells_bool, cells_agg, cells_sl, cells_clo, cells_und, wcs_len, List.length_replicate, List.length_set]; done) | (simp only [List.length_map, List.length_append, List.length_cons, List.length_nil, List.length_take, List.length_drop, cells_int, cells_bool, cells_agg, cells_sl, cells_clo, cells_und, wcs_len, List.length_replicate, List.length_set]; omega)) only [go_sem, ↓reduceIte, reduceCtorEq, Nat.reduceEqDiff, Nat.reduceAdd, Nat.reduceMul, Nat.reduceSub, Nat.reduceLeDiff, Int.reduceEq, Int.reduceLT, Int.reduceLE, Int.reduceAdd, Int.reduceSub, Int.reduceMul, Int.reduceNeg, Int.reduceToNat]
    refine wcond_dec (fun h => ?_) (fun h => ?_)
    · exfalso
      omega
    · simp (config := { failIfUnchanged := false }) (disch := first | omega | (simp only [List.length_map, List.length_append, List.length_cons, List.length_nil, List.length_take, List.length_drop, cells_int, cells_bool, cells_agg, cells_sl, cells_clo, cells_und, wcs_len, List.length_replicate, List.length_set]; done) | (simp only [List.length_map, List.length_append, List.length_cons, List.length_nil, List.length_take, List.length_drop, cells_int, cells_bool, cells_agg, cells_sl, cells_clo, cells_und, wcs_len, List.length_replicate, List.length_set]; omega)) only [go_sem, ↓reduceIte, reduceCtorEq, Nat.reduceEqDiff, Nat.reduceAdd, Nat.reduceMul, Nat.reduceSub, Nat.reduceLeDiff, Int.reduceEq, Int.reduceLT, Int.reduceLE, Int.reduceAdd, Int.reduceSub, Int.reduceMul, Int.reduceNeg, Int.reduceToNat]
      refine wcall (c104 b hv first.length (by omega) freely) ?_
      obtain ⟨ns, hns⟩ : ∃ ns, (List.range (allN b)).filter (isN b first.length freely) = ns := ⟨_, rfl⟩
      have hnums : numsL b first.length freely (allN b) = nat ns := by rw [← hns]; rfl
      rw [hnums]
      have hnsl : ns.length ≤ allN b := by rw [← hns]; exact Nat.le_trans (List.length_filter_le _ _) (by simp)
      have hnsx : ∀ x ∈ ns, x ≤ 10000 := by
        intro x hx2
        rw [← hns] at hx2
        have := List.mem_range.1 (List.mem_filter.1 hx2).1
        omega
      have hF : sumsF b freely (k + 1) first = ns.flatMap fun n => sumsF b freely k (first ++ [n]) := by rw [← hns]; rfl
      rw [hF] at hlen ⊢
      simp (config := { failIfUnchanged := false }) (disch := first | omega | (simp only [List.length_map, List.length_append, List.length_cons, List.length_nil, List.length_take, List.length_drop, cells_int, cells_bool, cells_agg, cells_sl, cells_clo, cells_und, wcs_len, List.length_replicate, List.length_set]; done) | (simp only [List.length_map, List.length_append, List.length_cons, List.length_nil, List.length_take, List.length_drop, cells_int, cells_bool, cells_agg, cells_sl, cells_clo, cells_und, wcs_len, List.length_replicate, List.length_set]; omega)) only [go_sem, ↓reduceIte, reduceCtorEq, Nat.reduceEqDiff, Nat.reduceAdd, Nat.reduceMul, Nat.reduceSub, Nat.reduceLeDiff, Int.reduceEq, Int.reduceLT, Int.reduceLE, Int.reduceAdd, Int.reduceSub, Int.reduceMul, Int.reduceNeg, Int.reduceToNat]
      refine wp_loop' Nat (fun i => ⟨[(1, IS (nat first)), (2, .bool freely), (3, .ptr 3 0), (8, .sl 1 (((ns.take i).flatMap fun n => sumsF b freely k (first ++ [n])).map IS) (.own 8)), (9, IS (nat ns)), (10, .int i)], [(3, ⟨[.int b.base, .int b.places, .sl 1 (b.cords.map SS) .sh, SS b.top], false⟩)], [(8, ((ns.take i).flatMap fun n => sumsF b freely k (first ++ [n])).length)], none⟩) (fun i => i ≤ ns.length) (fun i => ns.length - i) 0 (by simp) (by simp (config := { failIfUnchanged := false }) (disch := first | omega | (simp only [List.length_map, List.length_append, List.length_cons, List.length_nil, List.length_take, List.length_drop, cells_int, cells_bool, cells_agg, cells_sl, cells_clo, cells_und, wcs_len, List.length_replicate, List.length_set]; done) | (simp only [List.length_map, List.length_append, List.length_cons, List.length_nil, List.length_take, List.length_drop, cells_int, cells_bool, cells_agg, cells_sl, cells_clo, cells_und, wcs_len, List.length_replicate, List.length_set]; omega)) only [go_sem, ↓reduceIte, reduceCtorEq, Nat.reduceEqDiff, Nat.reduceAdd, Nat.reduceMul, Nat.reduceSub, Nat.reduceLeDiff, Int.reduceEq, Int.reduceLT, Int.reduceLE, Int.reduceAdd, Int.reduceSub, Int.reduceMul, Int.reduceNeg, Int.reduceToNat]; simp) ?_
      intro i hi
      have hfl : (nat first).length ≤ 4 := by simp only [nat, List.length_map]; omega
      have hpre : ((ns.take (i + 1)).flatMap fun n => sumsF b freely k (first ++ [n])).length ≤ (ns.flatMap fun n => sumsF b freely k (first ++ [n])).length := by
        conv => rhs; rw [← List.take_append_drop (i + 1) ns, List.flatMap_append, List.length_append]
        omega
      simp (config := { failIfUnchanged := false }) (disch := first | omega | (simp only [List.length_map, List.length_append, List.length_cons, List.length_nil, List.length_take, List.length_drop, cells_int, cells_bool, cells_agg, cells_sl, cells_clo, cells_und, wcs_len, List.length_replicate, List.length_set]; done) | (simp only [List.length_map, List.length_append, List.length_cons, List.length_nil, List.length_take, List.length_drop, cells_int, cells_bool, cells_agg, cells_sl, cells_clo, cells_und, wcs_len, List.length_replicate, List.length_set]; omega)) only [go_sem, ↓reduceIte, reduceCtorEq, Nat.reduceEqDiff, Nat.reduceAdd, Nat.reduceMul, Nat.reduceSub, Nat.reduceLeDiff, Int.reduceEq, Int.reduceLT, Int.reduceLE, Int.reduceAdd, Int.reduceSub, Int.reduceMul, Int.reduceNeg, Int.reduceToNat]
      refine wcond_dec (fun h2 => ?_) (fun h2 => ?_)
      · have hlt : i < ns.length := by omega
        obtain ⟨x, hx2⟩ : ∃ x, ns[i]? = some x := ⟨ns[i], List.getElem?_eq_getElem hlt⟩
        have hxd : ns[i]?.getD default = x := by rw [hx2]; rfl
        have hxle := hnsx x (List.mem_of_getElem? hx2)
        have hstep : ((ns.take (i + 1)).flatMap fun n => sumsF b freely k (first ++ [n])) = ((ns.take i).flatMap fun n => sumsF b freely k (first ++ [n])) ++ sumsF b freely k (first ++ [x]) := by
          rw [List.take_add_one, hx2, List.flatMap_append]
          simp
        rw [hstep, List.length_append] at hpre
        have hxd2 : (nat ns)[i]?.getD default = (x : Int) := by simp [nat, hx2]
        simp (config := { failIfUnchanged := false }) (disch := first | omega | (simp only [List.length_map, List.length_append, List.length_cons, List.length_nil, List.length_take, List.length_drop, cells_int, cells_bool, cells_agg, cells_sl, cells_clo, cells_und, wcs_len, List.length_replicate, List.length_set]; done) | (simp only [List.length_map, List.length_append, List.length_cons, List.length_nil, List.length_take, List.length_drop, cells_int, cells_bool, cells_agg, cells_sl, cells_clo, cells_und, wcs_len, List.length_replicate, List.length_set]; omega)) only [go_sem, ↓reduceIte, reduceCtorEq, Nat.reduceEqDiff, Nat.reduceAdd, Nat.reduceMul, Nat.reduceSub, Nat.reduceLeDiff, Int.reduceEq, Int.reduceLT, Int.reduceLE, Int.reduceAdd, Int.reduceSub, Int.reduceMul, Int.reduceNeg, Int.reduceToNat, hxd2]
        have hargs : (nat first).map AV.int ++ [AV.int (x : Int)] = (nat (first ++ [x])).map AV.int := by simp [nat]
        rw [hargs]
        refine wcall (ih (first ++ [x]) (by simp; omega) (fun y hy => ?_) (by omega)) ?_
        · rcases List.mem_append.1 hy with hy | hy
          · exact hx y hy
          · simp at hy; omega
        · simp (config := { failIfUnchanged := false }) (disch := first | omega | (simp only [List.length_map, List.length_append, List.length_cons, List.length_nil, List.length_take, List.length_drop, cells_int, cells_bool, cells_agg, cells_sl, cells_clo, cells_und, wcs_len, List.length_replicate, List.length_set]; done) | (simp only [List.length_map, List.length_append, List.length_cons, List.length_nil, List.length_take, List.length_drop, cells_int, cells_bool, cells_agg, cells_sl, cells_clo, cells_und, wcs_len, List.length_replicate, List.length_set]; omega)) only [go_sem, ↓reduceIte, reduceCtorEq, Nat.reduceEqDiff, Nat.reduceAdd, Nat.reduceMul, Nat.reduceSub, Nat.reduceLeDiff, Int.reduceEq, Int.reduceLT, Int.reduceLE, Int.reduceAdd, Int.reduceSub, Int.reduceMul, Int.reduceNeg, Int.reduceToNat]
          refine ⟨i + 1, by omega, by dsimp only; omega, ?_⟩
          dsimp only
          rw [hstep]
          simp (config := { failIfUnchanged := false }) (disch := first | omega | (simp only [List.length_map, List.length_append, List.length_cons, List.length_nil, List.length_take, List.length_drop, cells_int, cells_bool, cells_agg, cells_sl, cells_clo, cells_und, wcs_len, List.length_replicate, List.length_set]; done) | (simp only [List.length_map, List.length_append, List.length_cons, List.length_nil, List.length_take, List.length_drop, cells_int, cells_bool, cells_agg, cells_sl, cells_clo, cells_und, wcs_len, List.length_replicate, List.length_set]; omega)) only [go_sem, ↓reduceIte, reduceCtorEq, Nat.reduceEqDiff, Nat.reduceAdd, Nat.reduceMul, Nat.reduceSub, Nat.reduceLeDiff, Int.reduceEq, Int.reduceLT, Int.reduceLE, Int.reduceAdd, Int.reduceSub, Int.reduceMul, Int.reduceNeg, Int.reduceToNat]
          simp
      · simp (config := { failIfUnchanged := false }) (disch := first | omega | (simp only [List.length_map, List.length_append, List.length_cons, List.length_nil, List.length_take, List.length_drop, cells_int, cells_bool, cells_agg, cells_sl, cells_clo, cells_und, wcs_len, List.length_replicate, List.length_set]; done) | (simp only [List.length_map, List.length_append, List.length_cons, List.length_nil, List.length_take, List.length_drop, cells_int, cells_bool, cells_agg, cells_sl, cells_clo, cells_und, wcs_len, List.length_replicate, List.length_set]; omega)) only [go_sem, ↓reduceIte, reduceCtorEq, Nat.reduceEqDiff, Nat.reduceAdd, Nat.reduceMul, Nat.reduceSub, Nat.reduceLeDiff, Int.reduceEq, Int.reduceLT, Int.reduceLE, Int.reduceAdd, Int.reduceSub, Int.reduceMul, Int.reduceNeg, Int.reduceToNat]
        have e : i = ns.length := by omega
        rw [e, List.take_length]

end Go.Proofs.Ytkkiipjfbebipaa

/- The reference: Many. -/
set_option linter.unusedSimpArgs false
set_option linter.unusedVariables false
set_option linter.unnecessarySimpa false
namespace Go.Proofs.Ytkkiipjfbebipaa
open Go Go.V

theorem c55 (b : Bk) (hs : Small b) (hlen : checkB b = true → (sumsF b false b.cords.length []).length < 4294967296) : Ctr Try.prog 55 [KB b]
    (if checkB b then .tup [.int (sumsF b false b.cords.length []).length, .int 0] else .tup [.int 0, .int 110]) := by
  refine ctr_of_wp hmix Try.func55 m55 rfl ?_
  unfold v55
  simp (config := { failIfUnchanged := false }) (disch := first | omega | (simp [wcs_len] <;> omega) | fail) only [go_sem, ↓reduceIte, reduceCtorEq, Nat.reduceEqDiff, Nat.reduceAdd, Nat.reduceMul, Nat.reduceSub, Nat.reduceLeDiff, Int.reduceEq, Int.reduceLT, Int.reduceLE, Int.reduceAdd, Int.reduceSub, Int.reduceMul, Int.reduceNeg, Int.reduceToNat]
  refine wcall (c50 b hs) ?_
  cases hc : checkB b with
  | false => simp (config := { failIfUnchanged := false }) (disch := first | omega | (simp [wcs_len] <;> omega) | fail) only [go_sem, ↓reduceIte, reduceCtorEq, Nat.reduceEqDiff, Nat.reduceAdd, Nat.reduceMul, Nat.reduceSub, Nat.reduceLeDiff, Int.reduceEq, Int.reduceLT, Int.reduceLE, Int.reduceAdd, Int.reduceSub, Int.reduceMul, Int.reduceNeg, Int.reduceToNat]
  | true =>
    simp (config := { failIfUnchanged := false }) (disch := first | omega | (simp [wcs_len] <;> omega) | fail) only [go_sem, ↓reduceIte, reduceCtorEq, Nat.reduceEqDiff, Nat.reduceAdd, Nat.reduceMul, Nat.reduceSub, Nat.reduceLeDiff, Int.reduceEq, Int.reduceLT, Int.reduceLE, Int.reduceAdd, Int.reduceSub, Int.reduceMul, Int.reduceNeg, Int.reduceToNat]
    refine wcall (c68 b (val_of_check hc) false b.cords.length [] (by simp) (by simp) (hlen hc)) ?_
    simp (config := { failIfUnchanged := false }) (disch := first | omega | (simp [wcs_len] <;> omega) | fail) only [go_sem, ↓reduceIte, reduceCtorEq, Nat.reduceEqDiff, Nat.reduceAdd, Nat.reduceMul, Nat.reduceSub, Nat.reduceLeDiff, Int.reduceEq, Int.reduceLT, Int.reduceLE, Int.reduceAdd, Int.reduceSub, Int.reduceMul, Int.reduceNeg, Int.reduceToNat]

theorem c51 (b : Bk) (hs : Small b) (n : Int) : Ctr Try.prog 51 [KB b, .int n]
    (if checkB b then if within n 0 ((allN b : Int) - 1) then .tup [IS (tieN b.base.toNat b.places.toNat n.toNat), .int 0] else .tup [IS [], .int 1] else .tup [IS [], .int 110]) := by
  refine ctr_of_wp hmix Try.func51 m51 rfl ?_
  unfold v51
  simp (config := { failIfUnchanged := false }) (disch := first | omega | (simp [wcs_len] <;> omega) | fail) only [go_sem, ↓reduceIte, reduceCtorEq, Nat.reduceEqDiff, Nat.reduceAdd, Nat.reduceMul, Nat.reduceSub, Nat.reduceLeDiff, Int.reduceEq, Int.reduceLT, Int.reduceLE, Int.reduceAdd, Int.reduceSub, Int.reduceMul, Int.reduceNeg, Int.reduceToNat]
  refine wcall (c50 b hs) ?_
  cases hc : checkB b with
  | false => simp (config := { failIfUnchanged := false }) (disch := first | omega | (simp [wcs_len] <;> omega) | fail) only [go_sem, ↓reduceIte, reduceCtorEq, Nat.reduceEqDiff, Nat.reduceAdd, Nat.reduceMul, Nat.reduceSub, Nat.reduceLeDiff, Int.reduceEq, Int.reduceLT, Int.reduceLE, Int.reduceAdd, Int.reduceSub, Int.reduceMul, Int.reduceNeg, Int.reduceToNat]; rfl
  | true =>
    have hv := val_of_check hc
    have hall := allN_le hv
    simp (config := { failIfUnchanged := false }) (disch := first | omega | (simp [wcs_len] <;> omega) | fail) only [go_sem, ↓reduceIte, reduceCtorEq, Nat.reduceEqDiff, Nat.reduceAdd, Nat.reduceMul, Nat.reduceSub, Nat.reduceLeDiff, Int.reduceEq, Int.reduceLT, Int.reduceLE, Int.reduceAdd, Int.reduceSub, Int.reduceMul, Int.reduceNeg, Int.reduceToNat]
    refine wcall (c41 b hv) ?_
    simp (config := { failIfUnchanged := false }) (disch := first | omega | (simp [wcs_len] <;> omega) | fail) only [go_sem, ↓reduceIte, reduceCtorEq, Nat.reduceEqDiff, Nat.reduceAdd, Nat.reduceMul, Nat.reduceSub, Nat.reduceLeDiff, Int.reduceEq, Int.reduceLT, Int.reduceLE, Int.reduceAdd, Int.reduceSub, Int.reduceMul, Int.reduceNeg, Int.reduceToNat]
    refine wcall (c76 _ _ _) ?_
    cases hw : within n 0 ((allN b : Int) - 1) with
    | false => simp (config := { failIfUnchanged := false }) (disch := first | omega | (simp [wcs_len] <;> omega) | fail) only [go_sem, ↓reduceIte, reduceCtorEq, Nat.reduceEqDiff, Nat.reduceAdd, Nat.reduceMul, Nat.reduceSub, Nat.reduceLeDiff, Int.reduceEq, Int.reduceLT, Int.reduceLE, Int.reduceAdd, Int.reduceSub, Int.reduceMul, Int.reduceNeg, Int.reduceToNat]; rfl
    | true =>
      have hn : 0 ≤ n ∧ n ≤ (allN b : Int) - 1 := by simpa [within] using hw
      obtain ⟨m, rfl⟩ : ∃ m : Nat, n = m := ⟨n.toNat, by omega⟩
      simp (config := { failIfUnchanged := false }) (disch := first | omega | (simp [wcs_len] <;> omega) | fail) only [go_sem, ↓reduceIte, reduceCtorEq, Nat.reduceEqDiff, Nat.reduceAdd, Nat.reduceMul, Nat.reduceSub, Nat.reduceLeDiff, Int.reduceEq, Int.reduceLT, Int.reduceLE, Int.reduceAdd, Int.reduceSub, Int.reduceMul, Int.reduceNeg, Int.reduceToNat]
      refine wcall (c69 b hv m (by omega)) ?_
      simp (config := { failIfUnchanged := false }) (disch := first | omega | (simp [wcs_len] <;> omega) | fail) only [go_sem, ↓reduceIte, reduceCtorEq, Nat.reduceEqDiff, Nat.reduceAdd, Nat.reduceMul, Nat.reduceSub, Nat.reduceLeDiff, Int.reduceEq, Int.reduceLT, Int.reduceLE, Int.reduceAdd, Int.reduceSub, Int.reduceMul, Int.reduceNeg, Int.reduceToNat]

theorem c52 (b : Bk) (hs : Small b) (l : List Int) (hl : l.length < 4294967296) : Ctr Try.prog 52 [KB b, IS l]
    (if checkB b then if areDig b l then .tup [.int (numL b.base l), .int 0] else .tup [.int 0, .int 1] else .tup [.int 0, .int 110]) := by
  refine ctr_of_wp hmix Try.func52 m52 rfl ?_
  unfold v52
  simp (config := { failIfUnchanged := false }) (disch := first | omega | (simp [wcs_len] <;> omega) | fail) only [go_sem, ↓reduceIte, reduceCtorEq, Nat.reduceEqDiff, Nat.reduceAdd, Nat.reduceMul, Nat.reduceSub, Nat.reduceLeDiff, Int.reduceEq, Int.reduceLT, Int.reduceLE, Int.reduceAdd, Int.reduceSub, Int.reduceMul, Int.reduceNeg, Int.reduceToNat]
  refine wcall (c50 b hs) ?_
  cases hc : checkB b with
  | false => simp (config := { failIfUnchanged := false }) (disch := first | omega | (simp [wcs_len] <;> omega) | fail) only [go_sem, ↓reduceIte, reduceCtorEq, Nat.reduceEqDiff, Nat.reduceAdd, Nat.reduceMul, Nat.reduceSub, Nat.reduceLeDiff, Int.reduceEq, Int.reduceLT, Int.reduceLE, Int.reduceAdd, Int.reduceSub, Int.reduceMul, Int.reduceNeg, Int.reduceToNat]
  | true =>
    simp (config := { failIfUnchanged := false }) (disch := first | omega | (simp [wcs_len] <;> omega) | fail) only [go_sem, ↓reduceIte, reduceCtorEq, Nat.reduceEqDiff, Nat.reduceAdd, Nat.reduceMul, Nat.reduceSub, Nat.reduceLeDiff, Int.reduceEq, Int.reduceLT, Int.reduceLE, Int.reduceAdd, Int.reduceSub, Int.reduceMul, Int.reduceNeg, Int.reduceToNat]
    refine wcall (c43 b l hl) ?_
    cases hd : areDig b l with
    | false => simp (config := { failIfUnchanged := false }) (disch := first | omega | (simp [wcs_len] <;> omega) | fail) only [go_sem, ↓reduceIte, reduceCtorEq, Nat.reduceEqDiff, Nat.reduceAdd, Nat.reduceMul, Nat.reduceSub, Nat.reduceLeDiff, Int.reduceEq, Int.reduceLT, Int.reduceLE, Int.reduceAdd, Int.reduceSub, Int.reduceMul, Int.reduceNeg, Int.reduceToNat]
    | true =>
      simp (config := { failIfUnchanged := false }) (disch := first | omega | (simp [wcs_len] <;> omega) | fail) only [go_sem, ↓reduceIte, reduceCtorEq, Nat.reduceEqDiff, Nat.reduceAdd, Nat.reduceMul, Nat.reduceSub, Nat.reduceLeDiff, Int.reduceEq, Int.reduceLT, Int.reduceLE, Int.reduceAdd, Int.reduceSub, Int.reduceMul, Int.reduceNeg, Int.reduceToNat]
      refine wcall (c46 b l hl) ?_
      simp (config := { failIfUnchanged := false }) (disch := first | omega | (simp [wcs_len] <;> omega) | fail) only [go_sem, ↓reduceIte, reduceCtorEq, Nat.reduceEqDiff, Nat.reduceAdd, Nat.reduceMul, Nat.reduceSub, Nat.reduceLeDiff, Int.reduceEq, Int.reduceLT, Int.reduceLE, Int.reduceAdd, Int.reduceSub, Int.reduceMul, Int.reduceNeg, Int.reduceToNat]

end Go.Proofs.Ytkkiipjfbebipaa

/- The reference: known, span. -/
set_option linter.unusedSimpArgs false
set_option linter.unusedVariables false
set_option linter.unnecessarySimpa false
namespace Go.Proofs.Ytkkiipjfbebipaa
open Go Go.V

abbrev allS (b : Bk) : List (List Int) := sumsF b false b.cords.length []

theorem c96 (b : Bk) (hs : Small b) (is : Bool) (hlen : checkB b = true → (allS b).length < 4294967296) : Ctr Try.prog 96 [KB b, .bool is]
    (if checkB b then if is then if (allS b).length = 0 then .tup [ISS [], .int 3] else .tup [ISS (allS b), .int 0] else .tup [ISS [], .int 1] else .tup [ISS [], .int 110]) := by
  refine ctr_of_wp hmix Try.func96 m96 rfl ?_
  unfold v96
  simp (config := { failIfUnchanged := false }) (disch := first | omega | (simp [wcs_len] <;> omega) | fail) only [go_sem, ↓reduceIte, reduceCtorEq, Nat.reduceEqDiff, Nat.reduceAdd, Nat.reduceMul, Nat.reduceSub, Nat.reduceLeDiff, Int.reduceEq, Int.reduceLT, Int.reduceLE, Int.reduceAdd, Int.reduceSub, Int.reduceMul, Int.reduceNeg, Int.reduceToNat]
  refine wcall (c95 b hs is) ?_
  cases hc : checkB b with
  | false => simp (config := { failIfUnchanged := false }) (disch := first | omega | (simp [wcs_len] <;> omega) | fail) only [go_sem, ↓reduceIte, reduceCtorEq, Nat.reduceEqDiff, Nat.reduceAdd, Nat.reduceMul, Nat.reduceSub, Nat.reduceLeDiff, Int.reduceEq, Int.reduceLT, Int.reduceLE, Int.reduceAdd, Int.reduceSub, Int.reduceMul, Int.reduceNeg, Int.reduceToNat]; rfl
  | true =>
    cases is with
    | false => simp (config := { failIfUnchanged := false }) (disch := first | omega | (simp [wcs_len] <;> omega) | fail) only [go_sem, ↓reduceIte, reduceCtorEq, Nat.reduceEqDiff, Nat.reduceAdd, Nat.reduceMul, Nat.reduceSub, Nat.reduceLeDiff, Int.reduceEq, Int.reduceLT, Int.reduceLE, Int.reduceAdd, Int.reduceSub, Int.reduceMul, Int.reduceNeg, Int.reduceToNat]; rfl
    | true =>
      simp (config := { failIfUnchanged := false }) (disch := first | omega | (simp [wcs_len] <;> omega) | fail) only [go_sem, ↓reduceIte, reduceCtorEq, Nat.reduceEqDiff, Nat.reduceAdd, Nat.reduceMul, Nat.reduceSub, Nat.reduceLeDiff, Int.reduceEq, Int.reduceLT, Int.reduceLE, Int.reduceAdd, Int.reduceSub, Int.reduceMul, Int.reduceNeg, Int.reduceToNat]
      refine wcall (c68 b (val_of_check hc) false b.cords.length [] (by simp) (by simp) (hlen hc)) ?_
      simp (config := { failIfUnchanged := false }) (disch := first | omega | (simp [wcs_len] <;> omega) | fail) only [go_sem, ↓reduceIte, reduceCtorEq, Nat.reduceEqDiff, Nat.reduceAdd, Nat.reduceMul, Nat.reduceSub, Nat.reduceLeDiff, Int.reduceEq, Int.reduceLT, Int.reduceLE, Int.reduceAdd, Int.reduceSub, Int.reduceMul, Int.reduceNeg, Int.reduceToNat]
      refine wcond_dec (fun h => ?_) (fun h => ?_)
      · have h2 : (sumsF b false b.cords.length []).length = 0 := by omega
        simp (config := { failIfUnchanged := false }) (disch := first | omega | (simp [wcs_len] <;> omega) | fail) only [go_sem, ↓reduceIte, reduceCtorEq, Nat.reduceEqDiff, Nat.reduceAdd, Nat.reduceMul, Nat.reduceSub, Nat.reduceLeDiff, Int.reduceEq, Int.reduceLT, Int.reduceLE, Int.reduceAdd, Int.reduceSub, Int.reduceMul, Int.reduceNeg, Int.reduceToNat, h2]
        rfl
      · have h2 : ¬ (sumsF b false b.cords.length []).length = 0 := by omega
        simp (config := { failIfUnchanged := false }) (disch := first | omega | (simp [wcs_len] <;> omega) | fail) only [go_sem, ↓reduceIte, reduceCtorEq, Nat.reduceEqDiff, Nat.reduceAdd, Nat.reduceMul, Nat.reduceSub, Nat.reduceLeDiff, Int.reduceEq, Int.reduceLT, Int.reduceLE, Int.reduceAdd, Int.reduceSub, Int.reduceMul, Int.reduceNeg, Int.reduceToNat, h2]

def spanL (l : List Int) (m : Nat) : Sp := (l.take m).foldl (fun s x => ⟨min s.lo x, max s.hi x⟩) ⟨l[0]?.getD default, l[0]?.getD default⟩

theorem ag42 : aggOf Try.prog 42 = some true := by kernel_rfl
theorem sz42 : szOf Try.prog 42 = some 2 := by kernel_rfl

attribute [go_sem] ag42 sz42

theorem c97 (l : List Int) (h0 : 0 < l.length) (hl : l.length < 4294967296) : Ctr Try.prog 97 [IS l] (SP (spanL l l.length)) := by
  refine ctr_of_wp hmix Try.func97 m97 rfl ?_
  unfold v97
  simp (config := { failIfUnchanged := false }) (disch := first | omega | (simp [wcs_len] <;> omega) | fail) only [go_sem, ↓reduceIte, reduceCtorEq, Nat.reduceEqDiff, Nat.reduceAdd, Nat.reduceMul, Nat.reduceSub, Nat.reduceLeDiff, Int.reduceEq, Int.reduceLT, Int.reduceLE, Int.reduceAdd, Int.reduceSub, Int.reduceMul, Int.reduceNeg, Int.reduceToNat]
  refine wp_loop' (Nat × Sp) (fun x => ⟨[(0, IS l), (2, .ptr 2 0), (3, .ptr 3 0), (4, .int x.1)], [(3, ⟨[.int x.2.lo, .int x.2.hi], false⟩), (2, ⟨[.int 0, .int 0], false⟩)], [], none⟩) (fun x => x.1 ≤ l.length ∧ x.2 = spanL l x.1) (fun x => l.length - x.1) (0, spanL l 0) (by simp) (by simp (config := { failIfUnchanged := false }) (disch := first | omega | (simp [wcs_len] <;> omega) | fail) only [go_sem, ↓reduceIte, reduceCtorEq, Nat.reduceEqDiff, Nat.reduceAdd, Nat.reduceMul, Nat.reduceSub, Nat.reduceLeDiff, Int.reduceEq, Int.reduceLT, Int.reduceLE, Int.reduceAdd, Int.reduceSub, Int.reduceMul, Int.reduceNeg, Int.reduceToNat]; simp [spanL]) ?_
  rintro ⟨i, s⟩ ⟨hi, hs⟩
  dsimp only at hi hs ⊢
  simp (config := { failIfUnchanged := false }) (disch := first | omega | (simp [wcs_len] <;> omega) | fail) only [go_sem, ↓reduceIte, reduceCtorEq, Nat.reduceEqDiff, Nat.reduceAdd, Nat.reduceMul, Nat.reduceSub, Nat.reduceLeDiff, Int.reduceEq, Int.reduceLT, Int.reduceLE, Int.reduceAdd, Int.reduceSub, Int.reduceMul, Int.reduceNeg, Int.reduceToNat]
  refine wcond_dec (fun h => ?_) (fun h => ?_)
  · have hlt : i < l.length := by omega
    simp (config := { failIfUnchanged := false }) (disch := first | omega | (simp [wcs_len] <;> omega) | fail) only [go_sem, ↓reduceIte, reduceCtorEq, Nat.reduceEqDiff, Nat.reduceAdd, Nat.reduceMul, Nat.reduceSub, Nat.reduceLeDiff, Int.reduceEq, Int.reduceLT, Int.reduceLE, Int.reduceAdd, Int.reduceSub, Int.reduceMul, Int.reduceNeg, Int.reduceToNat]
    have e : spanL l (i + 1) = ⟨min s.lo (l[i]?.getD default), max s.hi (l[i]?.getD default)⟩ := by
      rw [hs]
      unfold spanL
      rw [List.take_add_one, List.getElem?_eq_getElem hlt, List.foldl_append]
      rfl
    refine ⟨(i + 1, spanL l (i + 1)), ⟨by omega, rfl⟩, by dsimp only; omega, ?_⟩
    rw [e]
    simp (config := { failIfUnchanged := false }) (disch := first | omega | (simp [wcs_len] <;> omega) | fail) only [go_sem, ↓reduceIte, reduceCtorEq, Nat.reduceEqDiff, Nat.reduceAdd, Nat.reduceMul, Nat.reduceSub, Nat.reduceLeDiff, Int.reduceEq, Int.reduceLT, Int.reduceLE, Int.reduceAdd, Int.reduceSub, Int.reduceMul, Int.reduceNeg, Int.reduceToNat]
    simp
  · simp (config := { failIfUnchanged := false }) (disch := first | omega | (simp [wcs_len] <;> omega) | fail) only [go_sem, ↓reduceIte, reduceCtorEq, Nat.reduceEqDiff, Nat.reduceAdd, Nat.reduceMul, Nat.reduceSub, Nat.reduceLeDiff, Int.reduceEq, Int.reduceLT, Int.reduceLE, Int.reduceAdd, Int.reduceSub, Int.reduceMul, Int.reduceNeg, Int.reduceToNat]
    have e : i = l.length := by omega
    rw [hs, e]

end Go.Proofs.Ytkkiipjfbebipaa

/- The reference's lists as lists of naturals. -/
set_option linter.unusedSimpArgs false
set_option linter.unusedVariables false
set_option linter.unnecessarySimpa false
namespace Go.Proofs.Ytkkiipjfbebipaa
open Go Go.V

def sumsN (b : Bk) (freely : Bool) : Nat → List Nat → List (List Nat)
  | 0, first => if first.sum < allN b && (freely || fitsL b.top (tieN b.base.toNat b.places.toNat first.sum)) then [first ++ [first.sum]] else []
  | k + 1, first => ((List.range (allN b)).filter (isN b first.length freely)).flatMap fun n => sumsN b freely k (first ++ [n])

theorem sumsF_eq (b : Bk) (freely : Bool) : ∀ (k : Nat) (first : List Nat), sumsF b freely k first = (sumsN b freely k first).map nat
  | 0, first => by
    unfold sumsF sumsN
    split <;> rfl
  | k + 1, first => by
    unfold sumsF sumsN
    rw [List.map_flatMap]
    congr 1
    funext n
    exact sumsF_eq b freely k (first ++ [n])

/-- What is in the lists: a number for each cord and the sum, all of them small. -/
theorem sumsN_mem (b : Bk) (freely : Bool) : ∀ (k : Nat) (first l : List Nat), (∀ x ∈ first, x < allN b) → l ∈ sumsN b freely k first → l.length = first.length + k + 1 ∧ ∀ x ∈ l, x < allN b
  | 0, first, l, hf, hl => by
    unfold sumsN at hl
    split at hl
    · rename_i h
      simp only [Bool.and_eq_true, decide_eq_true_eq] at h
      simp only [List.mem_singleton] at hl
      subst hl
      refine ⟨by simp, fun x hx => ?_⟩
      rcases List.mem_append.1 hx with hx | hx
      · exact hf x hx
      · simp at hx; subst hx; exact h.1
    · simp at hl
  | k + 1, first, l, hf, hl => by
    unfold sumsN at hl
    obtain ⟨n, hn, hl⟩ := List.mem_flatMap.1 hl
    have hn2 : n < allN b := List.mem_range.1 (List.mem_filter.1 hn).1
    have := sumsN_mem b freely k (first ++ [n]) l (fun x hx => by
      rcases List.mem_append.1 hx with hx | hx
      · exact hf x hx
      · simp at hx; subst hx; exact hn2) hl
    refine ⟨by rw [this.1]; simp; omega, this.2⟩

end Go.Proofs.Ytkkiipjfbebipaa

/- The reference: Sure. -/
set_option linter.unusedSimpArgs false
set_option linter.unusedVariables false
set_option linter.unnecessarySimpa false
namespace Go.Proofs.Ytkkiipjfbebipaa
open Go Go.V

abbrev allNs (b : Bk) : List (List Nat) := sumsN b false b.cords.length []

theorem allS_eq (b : Bk) : allS b = (allNs b).map nat := sumsF_eq b false _ _

theorem allNs_mem {b : Bk} {l : List Nat} (h : l ∈ allNs b) : l.length = b.cords.length + 1 ∧ ∀ x ∈ l, x < allN b := by
  have := sumsN_mem b false b.cords.length [] l (by simp) h
  simpa using this

/-- The numbers of a cord. -/
def colS (b : Bk) (c : Nat) (m : Nat) : List Int := ((allNs b).take m).map fun l => ((l[c]?.getD default : Nat) : Int)

theorem nat_get (l : List Nat) (i : Nat) : (nat l)[i]?.getD default = ((l[i]?.getD default : Nat) : Int) := by
  simp only [nat, List.getElem?_map]
  cases l[i]? <;> rfl

theorem c56 (b : Bk) (hs : Small b) (c : Int) (hlen : checkB b = true → (allS b).length < 4294967296) : Ctr Try.prog 56 [KB b, .int c]
    (if checkB b then if within c 0 b.cords.length then if (allS b).length = 0 then .tup [SP ⟨0, 0⟩, .int 3] else .tup [SP (spanL (colS b c.toNat (allS b).length) (allS b).length), .int 0] else .tup [SP ⟨0, 0⟩, .int 1] else .tup [SP ⟨0, 0⟩, .int 110]) := by
  refine ctr_of_wp hmix Try.func56 m56 rfl ?_
  unfold v56
  simp (config := { failIfUnchanged := false }) (disch := first | omega | (simp [wcs_len] <;> omega) | fail) only [go_sem, ↓reduceIte, reduceCtorEq, Nat.reduceEqDiff, Nat.reduceAdd, Nat.reduceMul, Nat.reduceSub, Nat.reduceLeDiff, Int.reduceEq, Int.reduceLT, Int.reduceLE, Int.reduceAdd, Int.reduceSub, Int.reduceMul, Int.reduceNeg, Int.reduceToNat]
  refine wcall (c29 b c) ?_
  simp (config := { failIfUnchanged := false }) (disch := first | omega | (simp [wcs_len] <;> omega) | fail) only [go_sem, ↓reduceIte, reduceCtorEq, Nat.reduceEqDiff, Nat.reduceAdd, Nat.reduceMul, Nat.reduceSub, Nat.reduceLeDiff, Int.reduceEq, Int.reduceLT, Int.reduceLE, Int.reduceAdd, Int.reduceSub, Int.reduceMul, Int.reduceNeg, Int.reduceToNat]
  refine wcall (c96 b hs _ hlen) ?_
  cases hc : checkB b with
  | false => simp (config := { failIfUnchanged := false }) (disch := first | omega | (simp [wcs_len] <;> omega) | fail) only [go_sem, ↓reduceIte, reduceCtorEq, Nat.reduceEqDiff, Nat.reduceAdd, Nat.reduceMul, Nat.reduceSub, Nat.reduceLeDiff, Int.reduceEq, Int.reduceLT, Int.reduceLE, Int.reduceAdd, Int.reduceSub, Int.reduceMul, Int.reduceNeg, Int.reduceToNat]
  | true =>
    cases hw : within c 0 b.cords.length with
    | false => simp (config := { failIfUnchanged := false }) (disch := first | omega | (simp [wcs_len] <;> omega) | fail) only [go_sem, ↓reduceIte, reduceCtorEq, Nat.reduceEqDiff, Nat.reduceAdd, Nat.reduceMul, Nat.reduceSub, Nat.reduceLeDiff, Int.reduceEq, Int.reduceLT, Int.reduceLE, Int.reduceAdd, Int.reduceSub, Int.reduceMul, Int.reduceNeg, Int.reduceToNat]
    | true =>
      have hc2 : 0 ≤ c ∧ c ≤ (b.cords.length : Int) := by simpa [within] using hw
      obtain ⟨m, rfl⟩ : ∃ m : Nat, c = m := ⟨c.toNat, by omega⟩
      have hl2 := hlen hc
      rw [allS_eq] at hl2 ⊢
      simp only [List.length_map] at hl2 ⊢
      have hmem := @allNs_mem b
      generalize hL : allNs b = L at hl2 hmem
      by_cases h0 : L.length = 0
      · simp (config := { failIfUnchanged := false }) (disch := first | omega | (simp [wcs_len] <;> omega) | fail) only [go_sem, ↓reduceIte, reduceCtorEq, Nat.reduceEqDiff, Nat.reduceAdd, Nat.reduceMul, Nat.reduceSub, Nat.reduceLeDiff, Int.reduceEq, Int.reduceLT, Int.reduceLE, Int.reduceAdd, Int.reduceSub, Int.reduceMul, Int.reduceNeg, Int.reduceToNat, h0]
      · simp (config := { failIfUnchanged := false }) (disch := first | omega | (simp [wcs_len] <;> omega) | fail) only [go_sem, ↓reduceIte, reduceCtorEq, Nat.reduceEqDiff, Nat.reduceAdd, Nat.reduceMul, Nat.reduceSub, Nat.reduceLeDiff, Int.reduceEq, Int.reduceLT, Int.reduceLE, Int.reduceAdd, Int.reduceSub, Int.reduceMul, Int.reduceNeg, Int.reduceToNat, h0]
        refine wp_loop' Nat (fun i => ⟨[(1, .int m), (4, .ptr 4 0), (6, ISS (L.map nat)), (8, .sl 1 ((colS b m i).map .int) (.own 8)), (9, .int i)], [(4, ⟨[.int 0, .int 0], false⟩)], [(8, (colS b m i).length)], none⟩) (fun i => i ≤ L.length) (fun i => L.length - i) 0 (by simp) (by simp (config := { failIfUnchanged := false }) (disch := first | omega | (simp [wcs_len] <;> omega) | fail) only [go_sem, ↓reduceIte, reduceCtorEq, Nat.reduceEqDiff, Nat.reduceAdd, Nat.reduceMul, Nat.reduceSub, Nat.reduceLeDiff, Int.reduceEq, Int.reduceLT, Int.reduceLE, Int.reduceAdd, Int.reduceSub, Int.reduceMul, Int.reduceNeg, Int.reduceToNat]; simp [colS]) ?_
        intro i hi
        have hcl : (colS b m i).length = i := by simp [colS, hL]; omega
        simp (config := { failIfUnchanged := false }) (disch := first | omega | (simp [wcs_len] <;> omega) | fail) only [go_sem, ↓reduceIte, reduceCtorEq, Nat.reduceEqDiff, Nat.reduceAdd, Nat.reduceMul, Nat.reduceSub, Nat.reduceLeDiff, Int.reduceEq, Int.reduceLT, Int.reduceLE, Int.reduceAdd, Int.reduceSub, Int.reduceMul, Int.reduceNeg, Int.reduceToNat]
        refine wcond_dec (fun h => ?_) (fun h => ?_)
        · have hlt : i < L.length := by omega
          obtain ⟨l, hl⟩ : ∃ l, L[i]? = some l := ⟨L[i], List.getElem?_eq_getElem hlt⟩
          have hlm := hmem (List.mem_of_getElem? hl)
          have e1 : (L.map nat)[i]?.getD default = nat l := by simp [hl]
          have hnl : (nat l).length = b.cords.length + 1 := by rw [List.length_map]; exact hlm.1
          simp (config := { failIfUnchanged := false }) (disch := first | omega | (simp [wcs_len] <;> omega) | fail) only [go_sem, ↓reduceIte, reduceCtorEq, Nat.reduceEqDiff, Nat.reduceAdd, Nat.reduceMul, Nat.reduceSub, Nat.reduceLeDiff, Int.reduceEq, Int.reduceLT, Int.reduceLE, Int.reduceAdd, Int.reduceSub, Int.reduceMul, Int.reduceNeg, Int.reduceToNat, e1, nat_get]
          have es : colS b m (i + 1) = colS b m i ++ [((l[m]?.getD default : Nat) : Int)] := by
            unfold colS
            rw [hL, List.take_add_one, hl]
            simp
          refine ⟨i + 1, by omega, by dsimp only; omega, ?_⟩
          dsimp only
          rw [es]
          simp (config := { failIfUnchanged := false }) (disch := first | omega | (simp [wcs_len] <;> omega) | fail) only [go_sem, ↓reduceIte, reduceCtorEq, Nat.reduceEqDiff, Nat.reduceAdd, Nat.reduceMul, Nat.reduceSub, Nat.reduceLeDiff, Int.reduceEq, Int.reduceLT, Int.reduceLE, Int.reduceAdd, Int.reduceSub, Int.reduceMul, Int.reduceNeg, Int.reduceToNat]
          simp
        · simp (config := { failIfUnchanged := false }) (disch := first | omega | (simp [wcs_len] <;> omega) | fail) only [go_sem, ↓reduceIte, reduceCtorEq, Nat.reduceEqDiff, Nat.reduceAdd, Nat.reduceMul, Nat.reduceSub, Nat.reduceLeDiff, Int.reduceEq, Int.reduceLT, Int.reduceLE, Int.reduceAdd, Int.reduceSub, Int.reduceMul, Int.reduceNeg, Int.reduceToNat]
          have e : i = L.length := by omega
          subst e
          refine wcall (c97 _ (by omega) (by omega)) ?_
          simp (config := { failIfUnchanged := false }) (disch := first | omega | (simp [wcs_len] <;> omega) | fail) only [go_sem, ↓reduceIte, reduceCtorEq, Nat.reduceEqDiff, Nat.reduceAdd, Nat.reduceMul, Nat.reduceSub, Nat.reduceLeDiff, Int.reduceEq, Int.reduceLT, Int.reduceLE, Int.reduceAdd, Int.reduceSub, Int.reduceMul, Int.reduceNeg, Int.reduceToNat]
          rw [hcl]

end Go.Proofs.Ytkkiipjfbebipaa

/- The reference: Cluster. -/
set_option linter.unusedSimpArgs false
set_option linter.unusedVariables false
set_option linter.unnecessarySimpa false
namespace Go.Proofs.Ytkkiipjfbebipaa
open Go Go.V

/-- The digits of a cluster in the lists. -/
def digS (b : Bk) (c p : Nat) (m : Nat) : List Int := ((allNs b).take m).map fun l => (tieN b.base.toNat b.places.toNat (l[c]?.getD default))[p]?.getD default

theorem c57 (b : Bk) (hs : Small b) (c p : Int) (hlen : checkB b = true → (allS b).length < 4294967296) : Ctr Try.prog 57 [KB b, .int c, .int p]
    (if checkB b then if within c 0 b.cords.length && within p 0 (w64 (b.places - 1)) then if (allS b).length = 0 then .tup [SP ⟨0, 0⟩, .int 3] else .tup [SP (spanL (digS b c.toNat p.toNat (allS b).length) (allS b).length), .int 0] else .tup [SP ⟨0, 0⟩, .int 1] else .tup [SP ⟨0, 0⟩, .int 110]) := by
  refine ctr_of_wp hmix Try.func57 m57 rfl ?_
  unfold v57
  simp (config := { failIfUnchanged := false }) (disch := first | omega | (simp only [List.length_map, List.length_append, List.length_cons, List.length_nil, List.length_take, List.length_drop, cells_int, cells_bool, cells_agg, cells_sl, cells_clo, cells_und, wcs_len, List.length_replicate, List.length_set]; done) | (simp only [List.length_map, List.length_append, List.length_cons, List.length_nil, List.length_take, List.length_drop, cells_int, cells_bool, cells_agg, cells_sl, cells_clo, cells_und, wcs_len, List.length_replicate, List.length_set]; omega)) only [go_sem, ↓reduceIte, reduceCtorEq, Nat.reduceEqDiff, Nat.reduceAdd, Nat.reduceMul, Nat.reduceSub, Nat.reduceLeDiff, Int.reduceEq, Int.reduceLT, Int.reduceLE, Int.reduceAdd, Int.reduceSub, Int.reduceMul, Int.reduceNeg, Int.reduceToNat]
  refine wcall (c29 b c) ?_
  simp (config := { failIfUnchanged := false }) (disch := first | omega | (simp only [List.length_map, List.length_append, List.length_cons, List.length_nil, List.length_take, List.length_drop, cells_int, cells_bool, cells_agg, cells_sl, cells_clo, cells_und, wcs_len, List.length_replicate, List.length_set]; done) | (simp only [List.length_map, List.length_append, List.length_cons, List.length_nil, List.length_take, List.length_drop, cells_int, cells_bool, cells_agg, cells_sl, cells_clo, cells_und, wcs_len, List.length_replicate, List.length_set]; omega)) only [go_sem, ↓reduceIte, reduceCtorEq, Nat.reduceEqDiff, Nat.reduceAdd, Nat.reduceMul, Nat.reduceSub, Nat.reduceLeDiff, Int.reduceEq, Int.reduceLT, Int.reduceLE, Int.reduceAdd, Int.reduceSub, Int.reduceMul, Int.reduceNeg, Int.reduceToNat]
  refine WGd_bool (fun h1 => ?_) (fun h1 => ?_)
  · simp (config := { failIfUnchanged := false }) (disch := first | omega | (simp only [List.length_map, List.length_append, List.length_cons, List.length_nil, List.length_take, List.length_drop, cells_int, cells_bool, cells_agg, cells_sl, cells_clo, cells_und, wcs_len, List.length_replicate, List.length_set]; done) | (simp only [List.length_map, List.length_append, List.length_cons, List.length_nil, List.length_take, List.length_drop, cells_int, cells_bool, cells_agg, cells_sl, cells_clo, cells_und, wcs_len, List.length_replicate, List.length_set]; omega)) only [go_sem, ↓reduceIte, reduceCtorEq, Nat.reduceEqDiff, Nat.reduceAdd, Nat.reduceMul, Nat.reduceSub, Nat.reduceLeDiff, Int.reduceEq, Int.reduceLT, Int.reduceLE, Int.reduceAdd, Int.reduceSub, Int.reduceMul, Int.reduceNeg, Int.reduceToNat, h1]
    refine wcall (c30 b p) ?_
    simp (config := { failIfUnchanged := false }) (disch := first | omega | (simp only [List.length_map, List.length_append, List.length_cons, List.length_nil, List.length_take, List.length_drop, cells_int, cells_bool, cells_agg, cells_sl, cells_clo, cells_und, wcs_len, List.length_replicate, List.length_set]; done) | (simp only [List.length_map, List.length_append, List.length_cons, List.length_nil, List.length_take, List.length_drop, cells_int, cells_bool, cells_agg, cells_sl, cells_clo, cells_und, wcs_len, List.length_replicate, List.length_set]; omega)) only [go_sem, ↓reduceIte, reduceCtorEq, Nat.reduceEqDiff, Nat.reduceAdd, Nat.reduceMul, Nat.reduceSub, Nat.reduceLeDiff, Int.reduceEq, Int.reduceLT, Int.reduceLE, Int.reduceAdd, Int.reduceSub, Int.reduceMul, Int.reduceNeg, Int.reduceToNat]
    refine wcall (c96 b hs _ hlen) ?_
    cases hc : checkB b with
    | false => simp (config := { failIfUnchanged := false }) (disch := first | omega | (simp only [List.length_map, List.length_append, List.length_cons, List.length_nil, List.length_take, List.length_drop, cells_int, cells_bool, cells_agg, cells_sl, cells_clo, cells_und, wcs_len, List.length_replicate, List.length_set]; done) | (simp only [List.length_map, List.length_append, List.length_cons, List.length_nil, List.length_take, List.length_drop, cells_int, cells_bool, cells_agg, cells_sl, cells_clo, cells_und, wcs_len, List.length_replicate, List.length_set]; omega)) only [go_sem, ↓reduceIte, reduceCtorEq, Nat.reduceEqDiff, Nat.reduceAdd, Nat.reduceMul, Nat.reduceSub, Nat.reduceLeDiff, Int.reduceEq, Int.reduceLT, Int.reduceLE, Int.reduceAdd, Int.reduceSub, Int.reduceMul, Int.reduceNeg, Int.reduceToNat]
    | true =>
      have hv := val_of_check hc
      obtain ⟨hp1, hp2⟩ := hv.hp
      obtain ⟨hb1, hb2⟩ := hv.hb
      have hall := allN_le hv
      cases hw : within p 0 (w64 (b.places - 1)) with
      | false => simp (config := { failIfUnchanged := false }) (disch := first | omega | (simp only [List.length_map, List.length_append, List.length_cons, List.length_nil, List.length_take, List.length_drop, cells_int, cells_bool, cells_agg, cells_sl, cells_clo, cells_und, wcs_len, List.length_replicate, List.length_set]; done) | (simp only [List.length_map, List.length_append, List.length_cons, List.length_nil, List.length_take, List.length_drop, cells_int, cells_bool, cells_agg, cells_sl, cells_clo, cells_und, wcs_len, List.length_replicate, List.length_set]; omega)) only [go_sem, ↓reduceIte, reduceCtorEq, Nat.reduceEqDiff, Nat.reduceAdd, Nat.reduceMul, Nat.reduceSub, Nat.reduceLeDiff, Int.reduceEq, Int.reduceLT, Int.reduceLE, Int.reduceAdd, Int.reduceSub, Int.reduceMul, Int.reduceNeg, Int.reduceToNat, h1]
      | true =>
        have hc2 : 0 ≤ c ∧ c ≤ (b.cords.length : Int) := by simpa [within] using h1
        rw [w64_id (by omega)] at hw
        have hp3 : 0 ≤ p ∧ p ≤ b.places - 1 := by simpa [within] using hw
        obtain ⟨m, rfl⟩ : ∃ m : Nat, c = m := ⟨c.toNat, by omega⟩
        obtain ⟨q, rfl⟩ : ∃ q : Nat, p = q := ⟨p.toNat, by omega⟩
        have hl2 := hlen hc
        rw [allS_eq] at hl2 ⊢
        simp only [List.length_map] at hl2 ⊢
        have hmem := @allNs_mem b
        generalize hL : allNs b = L at hl2 hmem
        by_cases h0 : L.length = 0
        · simp (config := { failIfUnchanged := false }) (disch := first | omega | (simp only [List.length_map, List.length_append, List.length_cons, List.length_nil, List.length_take, List.length_drop, cells_int, cells_bool, cells_agg, cells_sl, cells_clo, cells_und, wcs_len, List.length_replicate, List.length_set]; done) | (simp only [List.length_map, List.length_append, List.length_cons, List.length_nil, List.length_take, List.length_drop, cells_int, cells_bool, cells_agg, cells_sl, cells_clo, cells_und, wcs_len, List.length_replicate, List.length_set]; omega)) only [go_sem, ↓reduceIte, reduceCtorEq, Nat.reduceEqDiff, Nat.reduceAdd, Nat.reduceMul, Nat.reduceSub, Nat.reduceLeDiff, Int.reduceEq, Int.reduceLT, Int.reduceLE, Int.reduceAdd, Int.reduceSub, Int.reduceMul, Int.reduceNeg, Int.reduceToNat, h0]
        · simp (config := { failIfUnchanged := false }) (disch := first | omega | (simp only [List.length_map, List.length_append, List.length_cons, List.length_nil, List.length_take, List.length_drop, cells_int, cells_bool, cells_agg, cells_sl, cells_clo, cells_und, wcs_len, List.length_replicate, List.length_set]; done) | (simp only [List.length_map, List.length_append, List.length_cons, List.length_nil, List.length_take, List.length_drop, cells_int, cells_bool, cells_agg, cells_sl, cells_clo, cells_und, wcs_len, List.length_replicate, List.length_set]; omega)) only [go_sem, ↓reduceIte, reduceCtorEq, Nat.reduceEqDiff, Nat.reduceAdd, Nat.reduceMul, Nat.reduceSub, Nat.reduceLeDiff, Int.reduceEq, Int.reduceLT, Int.reduceLE, Int.reduceAdd, Int.reduceSub, Int.reduceMul, Int.reduceNeg, Int.reduceToNat, h0]
          refine wp_loop' Nat (fun i => ⟨[(1, .int m), (2, .int q), (3, .ptr 3 0), (6, .ptr 6 0), (8, ISS (L.map nat)), (10, .sl 1 ((digS b m q i).map .int) (.own 10)), (11, .int i)], [(6, ⟨[.int 0, .int 0], false⟩), (3, ⟨[.int b.base, .int b.places, .sl 1 (b.cords.map SS) .sh, SS b.top], false⟩)], [(10, (digS b m q i).length)], none⟩) (fun i => i ≤ L.length) (fun i => L.length - i) 0 (by simp) (by simp (config := { failIfUnchanged := false }) (disch := first | omega | (simp only [List.length_map, List.length_append, List.length_cons, List.length_nil, List.length_take, List.length_drop, cells_int, cells_bool, cells_agg, cells_sl, cells_clo, cells_und, wcs_len, List.length_replicate, List.length_set]; done) | (simp only [List.length_map, List.length_append, List.length_cons, List.length_nil, List.length_take, List.length_drop, cells_int, cells_bool, cells_agg, cells_sl, cells_clo, cells_und, wcs_len, List.length_replicate, List.length_set]; omega)) only [go_sem, ↓reduceIte, reduceCtorEq, Nat.reduceEqDiff, Nat.reduceAdd, Nat.reduceMul, Nat.reduceSub, Nat.reduceLeDiff, Int.reduceEq, Int.reduceLT, Int.reduceLE, Int.reduceAdd, Int.reduceSub, Int.reduceMul, Int.reduceNeg, Int.reduceToNat]; simp [digS]) ?_
          intro i hi
          have hcl : (digS b m q i).length = i := by simp [digS, hL]; omega
          simp (config := { failIfUnchanged := false }) (disch := first | omega | (simp only [List.length_map, List.length_append, List.length_cons, List.length_nil, List.length_take, List.length_drop, cells_int, cells_bool, cells_agg, cells_sl, cells_clo, cells_und, wcs_len, List.length_replicate, List.length_set]; done) | (simp only [List.length_map, List.length_append, List.length_cons, List.length_nil, List.length_take, List.length_drop, cells_int, cells_bool, cells_agg, cells_sl, cells_clo, cells_und, wcs_len, List.length_replicate, List.length_set]; omega)) only [go_sem, ↓reduceIte, reduceCtorEq, Nat.reduceEqDiff, Nat.reduceAdd, Nat.reduceMul, Nat.reduceSub, Nat.reduceLeDiff, Int.reduceEq, Int.reduceLT, Int.reduceLE, Int.reduceAdd, Int.reduceSub, Int.reduceMul, Int.reduceNeg, Int.reduceToNat]
          refine wcond_dec (fun h => ?_) (fun h => ?_)
          · have hlt : i < L.length := by omega
            obtain ⟨l, hl⟩ : ∃ l, L[i]? = some l := ⟨L[i], List.getElem?_eq_getElem hlt⟩
            have hlm := hmem (List.mem_of_getElem? hl)
            have e1 : (L.map nat)[i]?.getD default = nat l := by simp [hl]
            have hnl : (nat l).length = b.cords.length + 1 := by rw [List.length_map]; exact hlm.1
            have hxl : l[m]?.getD default < allN b := hlm.2 _ (mem_getD (by omega))
            simp (config := { failIfUnchanged := false }) (disch := first | omega | (simp only [List.length_map, List.length_append, List.length_cons, List.length_nil, List.length_take, List.length_drop, cells_int, cells_bool, cells_agg, cells_sl, cells_clo, cells_und, wcs_len, List.length_replicate, List.length_set]; done) | (simp only [List.length_map, List.length_append, List.length_cons, List.length_nil, List.length_take, List.length_drop, cells_int, cells_bool, cells_agg, cells_sl, cells_clo, cells_und, wcs_len, List.length_replicate, List.length_set]; omega)) only [go_sem, ↓reduceIte, reduceCtorEq, Nat.reduceEqDiff, Nat.reduceAdd, Nat.reduceMul, Nat.reduceSub, Nat.reduceLeDiff, Int.reduceEq, Int.reduceLT, Int.reduceLE, Int.reduceAdd, Int.reduceSub, Int.reduceMul, Int.reduceNeg, Int.reduceToNat, e1, nat_get]
            refine wcall (c69 b hv (l[m]?.getD default) (by omega)) ?_
            have htl := tieN_len b.base.toNat b.places.toNat (l[m]?.getD default)
            simp (config := { failIfUnchanged := false }) (disch := first | omega | (simp only [List.length_map, List.length_append, List.length_cons, List.length_nil, List.length_take, List.length_drop, cells_int, cells_bool, cells_agg, cells_sl, cells_clo, cells_und, wcs_len, List.length_replicate, List.length_set]; done) | (simp only [List.length_map, List.length_append, List.length_cons, List.length_nil, List.length_take, List.length_drop, cells_int, cells_bool, cells_agg, cells_sl, cells_clo, cells_und, wcs_len, List.length_replicate, List.length_set]; omega)) only [go_sem, ↓reduceIte, reduceCtorEq, Nat.reduceEqDiff, Nat.reduceAdd, Nat.reduceMul, Nat.reduceSub, Nat.reduceLeDiff, Int.reduceEq, Int.reduceLT, Int.reduceLE, Int.reduceAdd, Int.reduceSub, Int.reduceMul, Int.reduceNeg, Int.reduceToNat]
            have es : digS b m q (i + 1) = digS b m q i ++ [(tieN b.base.toNat b.places.toNat (l[m]?.getD default))[q]?.getD default] := by
              unfold digS
              rw [hL, List.take_add_one, hl]
              simp
            refine ⟨i + 1, by omega, by dsimp only; omega, ?_⟩
            dsimp only
            rw [es]
            simp (config := { failIfUnchanged := false }) (disch := first | omega | (simp only [List.length_map, List.length_append, List.length_cons, List.length_nil, List.length_take, List.length_drop, cells_int, cells_bool, cells_agg, cells_sl, cells_clo, cells_und, wcs_len, List.length_replicate, List.length_set]; done) | (simp only [List.length_map, List.length_append, List.length_cons, List.length_nil, List.length_take, List.length_drop, cells_int, cells_bool, cells_agg, cells_sl, cells_clo, cells_und, wcs_len, List.length_replicate, List.length_set]; omega)) only [go_sem, ↓reduceIte, reduceCtorEq, Nat.reduceEqDiff, Nat.reduceAdd, Nat.reduceMul, Nat.reduceSub, Nat.reduceLeDiff, Int.reduceEq, Int.reduceLT, Int.reduceLE, Int.reduceAdd, Int.reduceSub, Int.reduceMul, Int.reduceNeg, Int.reduceToNat]
            simp
          · simp (config := { failIfUnchanged := false }) (disch := first | omega | (simp only [List.length_map, List.length_append, List.length_cons, List.length_nil, List.length_take, List.length_drop, cells_int, cells_bool, cells_agg, cells_sl, cells_clo, cells_und, wcs_len, List.length_replicate, List.length_set]; done) | (simp only [List.length_map, List.length_append, List.length_cons, List.length_nil, List.length_take, List.length_drop, cells_int, cells_bool, cells_agg, cells_sl, cells_clo, cells_und, wcs_len, List.length_replicate, List.length_set]; omega)) only [go_sem, ↓reduceIte, reduceCtorEq, Nat.reduceEqDiff, Nat.reduceAdd, Nat.reduceMul, Nat.reduceSub, Nat.reduceLeDiff, Int.reduceEq, Int.reduceLT, Int.reduceLE, Int.reduceAdd, Int.reduceSub, Int.reduceMul, Int.reduceNeg, Int.reduceToNat]
            have e : i = L.length := by omega
            subst e
            refine wcall (c97 _ (by omega) (by omega)) ?_
            simp (config := { failIfUnchanged := false }) (disch := first | omega | (simp only [List.length_map, List.length_append, List.length_cons, List.length_nil, List.length_take, List.length_drop, cells_int, cells_bool, cells_agg, cells_sl, cells_clo, cells_und, wcs_len, List.length_replicate, List.length_set]; done) | (simp only [List.length_map, List.length_append, List.length_cons, List.length_nil, List.length_take, List.length_drop, cells_int, cells_bool, cells_agg, cells_sl, cells_clo, cells_und, wcs_len, List.length_replicate, List.length_set]; omega)) only [go_sem, ↓reduceIte, reduceCtorEq, Nat.reduceEqDiff, Nat.reduceAdd, Nat.reduceMul, Nat.reduceSub, Nat.reduceLeDiff, Int.reduceEq, Int.reduceLT, Int.reduceLE, Int.reduceAdd, Int.reduceSub, Int.reduceMul, Int.reduceNeg, Int.reduceToNat]
            rw [hcl]
  · simp (config := { failIfUnchanged := false }) (disch := first | omega | (simp only [List.length_map, List.length_append, List.length_cons, List.length_nil, List.length_take, List.length_drop, cells_int, cells_bool, cells_agg, cells_sl, cells_clo, cells_und, wcs_len, List.length_replicate, List.length_set]; done) | (simp only [List.length_map, List.length_append, List.length_cons, List.length_nil, List.length_take, List.length_drop, cells_int, cells_bool, cells_agg, cells_sl, cells_clo, cells_und, wcs_len, List.length_replicate, List.length_set]; omega)) only [go_sem, ↓reduceIte, reduceCtorEq, Nat.reduceEqDiff, Nat.reduceAdd, Nat.reduceMul, Nat.reduceSub, Nat.reduceLeDiff, Int.reduceEq, Int.reduceLT, Int.reduceLE, Int.reduceAdd, Int.reduceSub, Int.reduceMul, Int.reduceNeg, Int.reduceToNat, h1]
    refine wcall (c96 b hs _ hlen) ?_
    simp only [Bool.not_true] at h1
    cases hc : checkB b with
    | false => simp (config := { failIfUnchanged := false }) (disch := first | omega | (simp only [List.length_map, List.length_append, List.length_cons, List.length_nil, List.length_take, List.length_drop, cells_int, cells_bool, cells_agg, cells_sl, cells_clo, cells_und, wcs_len, List.length_replicate, List.length_set]; done) | (simp only [List.length_map, List.length_append, List.length_cons, List.length_nil, List.length_take, List.length_drop, cells_int, cells_bool, cells_agg, cells_sl, cells_clo, cells_und, wcs_len, List.length_replicate, List.length_set]; omega)) only [go_sem, ↓reduceIte, reduceCtorEq, Nat.reduceEqDiff, Nat.reduceAdd, Nat.reduceMul, Nat.reduceSub, Nat.reduceLeDiff, Int.reduceEq, Int.reduceLT, Int.reduceLE, Int.reduceAdd, Int.reduceSub, Int.reduceMul, Int.reduceNeg, Int.reduceToNat, h1]
    | true => simp (config := { failIfUnchanged := false }) (disch := first | omega | (simp only [List.length_map, List.length_append, List.length_cons, List.length_nil, List.length_take, List.length_drop, cells_int, cells_bool, cells_agg, cells_sl, cells_clo, cells_und, wcs_len, List.length_replicate, List.length_set]; done) | (simp only [List.length_map, List.length_append, List.length_cons, List.length_nil, List.length_take, List.length_drop, cells_int, cells_bool, cells_agg, cells_sl, cells_clo, cells_und, wcs_len, List.length_replicate, List.length_set]; omega)) only [go_sem, ↓reduceIte, reduceCtorEq, Nat.reduceEqDiff, Nat.reduceAdd, Nat.reduceMul, Nat.reduceSub, Nat.reduceLeDiff, Int.reduceEq, Int.reduceLT, Int.reduceLE, Int.reduceAdd, Int.reduceSub, Int.reduceMul, Int.reduceNeg, Int.reduceToNat, h1]

end Go.Proofs.Ytkkiipjfbebipaa

/- Digits of a cluster: iterators. -/
set_option linter.unusedSimpArgs false
set_option linter.unusedVariables false
set_option linter.unnecessarySimpa false
namespace Go.Proofs.Ytkkiipjfbebipaa
open Go Go.V

abbrev capsD (b : Bk) (m m2 : AV) (cord place : Nat) : List AV :=
  [.ref 6 [LM b m m2] 0 0, .ref 1 [.agg [.int cord]] 0 0, .ref 1 [.agg [.int place]] 0 0]

theorem c67 (b : Bk) (g g2 : Nat) (caps caps2 : List AV) (cord place : Nat) : Ctr Try.prog 67 [LM b (.clo g [] caps) (.clo g2 [] caps2), .int cord, .int place] (.clo 102 [] (capsD b (.clo g [] caps) (.clo g2 [] caps2) cord place)) := by
  refine ctr_of_wp hmix Try.func67 m67 rfl ?_
  unfold v67
  simp (config := { failIfUnchanged := false }) (disch := first | omega | (simp [wcs_len] <;> omega) | fail) only [go_sem, ↓reduceIte, reduceCtorEq, Nat.reduceEqDiff, Nat.reduceAdd, Nat.reduceMul, Nat.reduceSub, Nat.reduceLeDiff, Int.reduceEq, Int.reduceLT, Int.reduceLE, Int.reduceAdd, Int.reduceSub, Int.reduceMul, Int.reduceNeg, Int.reduceToNat]

def manyD (b : Bk) (may : Nat → Nat → Nat → Bool) (carry : Nat → Nat → Bool) (cord place d : Nat) : Int := (solveL b (onlyF may cord place d) carry).r

def spanD (b : Bk) (may : Nat → Nat → Nat → Bool) (carry : Nat → Nat → Bool) (cord place : Nat) (m : Nat) : Sp :=
  (List.range m).foldl (fun s d => if 0 < manyD b may carry cord place d then ⟨min s.lo d, max s.hi d⟩ else s) ⟨b.base, 0⟩

theorem ag42b : aggOf Try.prog 42 = some true := by kernel_rfl
theorem sz42b : szOf Try.prog 42 = some 2 := by kernel_rfl

attribute [go_sem] ag42b sz42b

theorem c80 (b : Bk) (hv : Val b) (g g2 : Nat) (caps caps2 : List AV) (may : Nat → Nat → Nat → Bool) (carry : Nat → Nat → Bool)
    (hmay : ∀ c p d : Nat, c ≤ b.cords.length → p < b.places.toNat → d < b.base.toNat → Ctr Try.prog g ([.int c, .int p, .int d] ++ caps) (.bool (may c p d)))
    (hcarry : ∀ p n : Nat, p < b.places.toNat → n ≤ 50 → Ctr Try.prog g2 ([.int p, .int n] ++ caps2) (.bool (carry p n))) (cord place : Nat) :
    Ctr Try.prog 80 [LM b (.clo g [] caps) (.clo g2 [] caps2), .int cord, .int place] (SP (spanD b may carry cord place b.base.toNat)) := by
  refine ctr_of_wp hmix Try.func80 m80 rfl ?_
  unfold v80
  simp (config := { failIfUnchanged := false }) (disch := first | omega | (simp [wcs_len] <;> omega) | fail) only [go_sem, ↓reduceIte, reduceCtorEq, Nat.reduceEqDiff, Nat.reduceAdd, Nat.reduceMul, Nat.reduceSub, Nat.reduceLeDiff, Int.reduceEq, Int.reduceLT, Int.reduceLE, Int.reduceAdd, Int.reduceSub, Int.reduceMul, Int.reduceNeg, Int.reduceToNat]
  refine wcall (c67 b g g2 caps caps2 cord place) ?_
  simp (config := { failIfUnchanged := false }) (disch := first | omega | (simp [wcs_len] <;> omega) | fail) only [go_sem, ↓reduceIte, reduceCtorEq, Nat.reduceEqDiff, Nat.reduceAdd, Nat.reduceMul, Nat.reduceSub, Nat.reduceLeDiff, Int.reduceEq, Int.reduceLT, Int.reduceLE, Int.reduceAdd, Int.reduceSub, Int.reduceMul, Int.reduceNeg, Int.reduceToNat]
  refine wp_range' ?_
  simp (config := { failIfUnchanged := false }) (disch := first | omega | (simp [wcs_len] <;> omega) | fail) only [go_sem, ↓reduceIte, reduceCtorEq, Nat.reduceEqDiff, Nat.reduceAdd, Nat.reduceMul, Nat.reduceSub, Nat.reduceLeDiff, Int.reduceEq, Int.reduceLT, Int.reduceLE, Int.reduceAdd, Int.reduceSub, Int.reduceMul, Int.reduceNeg, Int.reduceToNat]
  refine wrange fun l T hT => ?_
  refine csem_of_wp hmix Try.func102 m102 rfl rfl ?_
  unfold v102
  simp (config := { failIfUnchanged := false }) (disch := first | omega | (simp [wcs_len] <;> omega) | fail) only [go_sem, ↓reduceIte, reduceCtorEq, Nat.reduceEqDiff, Nat.reduceAdd, Nat.reduceMul, Nat.reduceSub, Nat.reduceLeDiff, Int.reduceEq, Int.reduceLT, Int.reduceLE, Int.reduceAdd, Int.reduceSub, Int.reduceMul, Int.reduceNeg, Int.reduceToNat]
  obtain ⟨hb1, hb2⟩ := hv.hb
  have hB : ((b.base.toNat : Nat) : Int) = b.base := by omega
  refine wp_loopX (Nat × Sp) (fun x => ⟨[(0, .yld l), (1, .ref 6 [LM b (.clo g [] caps) (.clo g2 [] caps2)] 0 0), (2, .ref 1 [.agg [.int cord]] 0 0), (3, .ref 1 [.agg [.int place]] 0 0), (9, .int b.base), (10, .int x.1)], [(7, ⟨[.int x.2.lo, .int x.2.hi], false⟩), (6, ⟨[.int 0, .int 0], false⟩)], [], none⟩)
    (fun x => x.1 ≤ b.base.toNat ∧ x.2 = spanD b may carry cord place x.1) (fun x => b.base.toNat - x.1) (0, spanD b may carry cord place 0) (by simp) (by simp (config := { failIfUnchanged := false }) (disch := first | omega | (simp [wcs_len] <;> omega) | fail) only [go_sem, ↓reduceIte, reduceCtorEq, Nat.reduceEqDiff, Nat.reduceAdd, Nat.reduceMul, Nat.reduceSub, Nat.reduceLeDiff, Int.reduceEq, Int.reduceLT, Int.reduceLE, Int.reduceAdd, Int.reduceSub, Int.reduceMul, Int.reduceNeg, Int.reduceToNat]; simp [spanD]) (fun x => by simp (config := { failIfUnchanged := false }) (disch := first | omega | (simp [wcs_len] <;> omega) | fail) only [go_sem, ↓reduceIte, reduceCtorEq, Nat.reduceEqDiff, Nat.reduceAdd, Nat.reduceMul, Nat.reduceSub, Nat.reduceLeDiff, Int.reduceEq, Int.reduceLT, Int.reduceLE, Int.reduceAdd, Int.reduceSub, Int.reduceMul, Int.reduceNeg, Int.reduceToNat]) ?_
  rintro ⟨d, s⟩ ⟨hd, hs⟩
  simp only at hd hs
  have hsucc : spanD b may carry cord place (d + 1) = if 0 < manyD b may carry cord place d then ⟨min s.lo d, max s.hi d⟩ else s := by
    rw [hs, spanD, List.range_succ, List.foldl_append]
    rfl
  simp (config := { failIfUnchanged := false }) (disch := first | omega | (simp [wcs_len] <;> omega) | fail) only [go_sem, ↓reduceIte, reduceCtorEq, Nat.reduceEqDiff, Nat.reduceAdd, Nat.reduceMul, Nat.reduceSub, Nat.reduceLeDiff, Int.reduceEq, Int.reduceLT, Int.reduceLE, Int.reduceAdd, Int.reduceSub, Int.reduceMul, Int.reduceNeg, Int.reduceToNat]
  refine wcond_dec (fun h => ?_) (fun h => ?_)
  · simp (config := { failIfUnchanged := false }) (disch := first | omega | (simp [wcs_len] <;> omega) | fail) only [go_sem, ↓reduceIte, reduceCtorEq, Nat.reduceEqDiff, Nat.reduceAdd, Nat.reduceMul, Nat.reduceSub, Nat.reduceLeDiff, Int.reduceEq, Int.reduceLT, Int.reduceLE, Int.reduceAdd, Int.reduceSub, Int.reduceMul, Int.reduceNeg, Int.reduceToNat]
    refine wcall (c74 b g g2 caps caps2 cord place d) ?_
    simp (config := { failIfUnchanged := false }) (disch := first | omega | (simp [wcs_len] <;> omega) | fail) only [go_sem, ↓reduceIte, reduceCtorEq, Nat.reduceEqDiff, Nat.reduceAdd, Nat.reduceMul, Nat.reduceSub, Nat.reduceLeDiff, Int.reduceEq, Int.reduceLT, Int.reduceLE, Int.reduceAdd, Int.reduceSub, Int.reduceMul, Int.reduceNeg, Int.reduceToNat]
    refine wcall (c65 b hv 108 g2 _ caps2 (onlyF may cord place d) carry (fun c p d' h1 h2 h3 => c108 g caps may cord place d c p d' (hmay c p d' h1 h2 h3)) hcarry) ?_
    simp (config := { failIfUnchanged := false }) (disch := first | omega | (simp [wcs_len] <;> omega) | fail) only [go_sem, ↓reduceIte, reduceCtorEq, Nat.reduceEqDiff, Nat.reduceAdd, Nat.reduceMul, Nat.reduceSub, Nat.reduceLeDiff, Int.reduceEq, Int.reduceLT, Int.reduceLE, Int.reduceAdd, Int.reduceSub, Int.reduceMul, Int.reduceNeg, Int.reduceToNat]
    refine WGd_bool (fun h1 => ?_) (fun h1 => ?_)
    · simp (config := { failIfUnchanged := false }) (disch := first | omega | (simp [wcs_len] <;> omega) | fail) only [go_sem, ↓reduceIte, reduceCtorEq, Nat.reduceEqDiff, Nat.reduceAdd, Nat.reduceMul, Nat.reduceSub, Nat.reduceLeDiff, Int.reduceEq, Int.reduceLT, Int.reduceLE, Int.reduceAdd, Int.reduceSub, Int.reduceMul, Int.reduceNeg, Int.reduceToNat, h1]
      refine wyield (hT _ _ _ _ _ rfl ?_)
      simp (config := { failIfUnchanged := false }) (disch := first | omega | (simp [wcs_len] <;> omega) | fail) only [go_sem, ↓reduceIte, reduceCtorEq, Nat.reduceEqDiff, Nat.reduceAdd, Nat.reduceMul, Nat.reduceSub, Nat.reduceLeDiff, Int.reduceEq, Int.reduceLT, Int.reduceLE, Int.reduceAdd, Int.reduceSub, Int.reduceMul, Int.reduceNeg, Int.reduceToNat, h1]
      have h1' : 0 < manyD b may carry cord place d := by simpa [manyD] using h1
      refine ⟨(d + 1, ⟨min s.lo d, max s.hi d⟩), ⟨by dsimp only; omega, by rw [hsucc, if_pos h1']⟩, by dsimp only; omega, ?_⟩
      simp (config := { failIfUnchanged := false }) (disch := first | omega | (simp [wcs_len] <;> omega) | fail) only [go_sem, ↓reduceIte, reduceCtorEq, Nat.reduceEqDiff, Nat.reduceAdd, Nat.reduceMul, Nat.reduceSub, Nat.reduceLeDiff, Int.reduceEq, Int.reduceLT, Int.reduceLE, Int.reduceAdd, Int.reduceSub, Int.reduceMul, Int.reduceNeg, Int.reduceToNat]
      simp
    · simp (config := { failIfUnchanged := false }) (disch := first | omega | (simp [wcs_len] <;> omega) | fail) only [go_sem, ↓reduceIte, reduceCtorEq, Nat.reduceEqDiff, Nat.reduceAdd, Nat.reduceMul, Nat.reduceSub, Nat.reduceLeDiff, Int.reduceEq, Int.reduceLT, Int.reduceLE, Int.reduceAdd, Int.reduceSub, Int.reduceMul, Int.reduceNeg, Int.reduceToNat, h1]
      have h1' : ¬ 0 < manyD b may carry cord place d := by simpa [manyD] using h1
      refine ⟨(d + 1, s), ⟨by dsimp only; omega, by rw [hsucc, if_neg h1']⟩, by dsimp only; omega, ?_⟩
      simp (config := { failIfUnchanged := false }) (disch := first | omega | (simp [wcs_len] <;> omega) | fail) only [go_sem, ↓reduceIte, reduceCtorEq, Nat.reduceEqDiff, Nat.reduceAdd, Nat.reduceMul, Nat.reduceSub, Nat.reduceLeDiff, Int.reduceEq, Int.reduceLT, Int.reduceLE, Int.reduceAdd, Int.reduceSub, Int.reduceMul, Int.reduceNeg, Int.reduceToNat]
      simp
  · simp (config := { failIfUnchanged := false }) (disch := first | omega | (simp [wcs_len] <;> omega) | fail) only [go_sem, ↓reduceIte, reduceCtorEq, Nat.reduceEqDiff, Nat.reduceAdd, Nat.reduceMul, Nat.reduceSub, Nat.reduceLeDiff, Int.reduceEq, Int.reduceLT, Int.reduceLE, Int.reduceAdd, Int.reduceSub, Int.reduceMul, Int.reduceNeg, Int.reduceToNat]
    have ed : d = b.base.toNat := by omega
    rw [hs, ed]

end Go.Proofs.Ytkkiipjfbebipaa

/- known on all its ways; Cluster, Sure, Carry. -/
set_option linter.unusedSimpArgs false
set_option linter.unusedVariables false
set_option linter.unnecessarySimpa false
namespace Go.Proofs.Ytkkiipjfbebipaa
open Go Go.V

abbrev LM0 : AV := .agg [.int 0, .int 0, .sl 1 [] .sh, .sl 2 [] .sh, .und, .und]

/-- What known returns. -/
def knownR (b : Bk) (is : Bool) : AV :=
  if checkB b then
    if is then
      if (solveL b yes3 yes2).r = 0 then .tup [LM0, .int 3] else .tup [LM b (.clo 100 [] []) (.clo 101 [] []), .int 0]
    else .tup [LM0, .int 1]
  else .tup [LM0, .int 110]

theorem c77g (b : Bk) (hs : Small b) (is : Bool) : Ctr Try.prog 77 [KB b, .bool is] (knownR b is) := by
  refine ctr_of_wp hmix Try.func77 m77 rfl ?_
  unfold v77 knownR
  simp (config := { failIfUnchanged := false }) (disch := first | omega | (simp [wcs_len] <;> omega) | fail) only [go_sem, ↓reduceIte, reduceCtorEq, Nat.reduceEqDiff, Nat.reduceAdd, Nat.reduceMul, Nat.reduceSub, Nat.reduceLeDiff, Int.reduceEq, Int.reduceLT, Int.reduceLE, Int.reduceAdd, Int.reduceSub, Int.reduceMul, Int.reduceNeg, Int.reduceToNat]
  refine wcall (c85 b hs is) ?_
  cases hc : checkB b with
  | false => simp (config := { failIfUnchanged := false }) (disch := first | omega | (simp [wcs_len] <;> omega) | fail) only [go_sem, ↓reduceIte, reduceCtorEq, Nat.reduceEqDiff, Nat.reduceAdd, Nat.reduceMul, Nat.reduceSub, Nat.reduceLeDiff, Int.reduceEq, Int.reduceLT, Int.reduceLE, Int.reduceAdd, Int.reduceSub, Int.reduceMul, Int.reduceNeg, Int.reduceToNat]
  | true =>
    cases is with
    | false => simp (config := { failIfUnchanged := false }) (disch := first | omega | (simp [wcs_len] <;> omega) | fail) only [go_sem, ↓reduceIte, reduceCtorEq, Nat.reduceEqDiff, Nat.reduceAdd, Nat.reduceMul, Nat.reduceSub, Nat.reduceLeDiff, Int.reduceEq, Int.reduceLT, Int.reduceLE, Int.reduceAdd, Int.reduceSub, Int.reduceMul, Int.reduceNeg, Int.reduceToNat]
    | true =>
      simp (config := { failIfUnchanged := false }) (disch := first | omega | (simp [wcs_len] <;> omega) | fail) only [go_sem, ↓reduceIte, reduceCtorEq, Nat.reduceEqDiff, Nat.reduceAdd, Nat.reduceMul, Nat.reduceSub, Nat.reduceLeDiff, Int.reduceEq, Int.reduceLT, Int.reduceLE, Int.reduceAdd, Int.reduceSub, Int.reduceMul, Int.reduceNeg, Int.reduceToNat]
      refine wcall (c64 b) ?_
      simp (config := { failIfUnchanged := false }) (disch := first | omega | (simp [wcs_len] <;> omega) | fail) only [go_sem, ↓reduceIte, reduceCtorEq, Nat.reduceEqDiff, Nat.reduceAdd, Nat.reduceMul, Nat.reduceSub, Nat.reduceLeDiff, Int.reduceEq, Int.reduceLT, Int.reduceLE, Int.reduceAdd, Int.reduceSub, Int.reduceMul, Int.reduceNeg, Int.reduceToNat]
      refine wcall (c65 b (val_of_check hc) 100 101 [] [] yes3 yes2 (fun c p d _ _ _ => c100 c p d) (fun p n _ _ => c101 p n)) ?_
      simp (config := { failIfUnchanged := false }) (disch := first | omega | (simp [wcs_len] <;> omega) | fail) only [go_sem, ↓reduceIte, reduceCtorEq, Nat.reduceEqDiff, Nat.reduceAdd, Nat.reduceMul, Nat.reduceSub, Nat.reduceLeDiff, Int.reduceEq, Int.reduceLT, Int.reduceLE, Int.reduceAdd, Int.reduceSub, Int.reduceMul, Int.reduceNeg, Int.reduceToNat]
      refine wcond_dec (fun h => ?_) (fun h => ?_)
      · simp (config := { failIfUnchanged := false }) (disch := first | omega | (simp [wcs_len] <;> omega) | fail) only [go_sem, ↓reduceIte, reduceCtorEq, Nat.reduceEqDiff, Nat.reduceAdd, Nat.reduceMul, Nat.reduceSub, Nat.reduceLeDiff, Int.reduceEq, Int.reduceLT, Int.reduceLE, Int.reduceAdd, Int.reduceSub, Int.reduceMul, Int.reduceNeg, Int.reduceToNat, h]
      · simp (config := { failIfUnchanged := false }) (disch := first | omega | (simp [wcs_len] <;> omega) | fail) only [go_sem, ↓reduceIte, reduceCtorEq, Nat.reduceEqDiff, Nat.reduceAdd, Nat.reduceMul, Nat.reduceSub, Nat.reduceLeDiff, Int.reduceEq, Int.reduceLT, Int.reduceLE, Int.reduceAdd, Int.reduceSub, Int.reduceMul, Int.reduceNeg, Int.reduceToNat, h]

/-- The answer of a function that asks for a right reading. -/
def ansR (b : Bk) (is : Bool) (z v : AV) : AV :=
  if checkB b then
    if is then
      if (solveL b yes3 yes2).r = 0 then .tup [z, .int 3] else .tup [v, .int 0]
    else .tup [z, .int 1]
  else .tup [z, .int 110]

theorem c39 (b : Bk) (hs : Small b) (c p : Int) : Ctr Try.prog 39 [KB b, .int c, .int p]
    (ansR b (within c 0 b.cords.length && within p 0 (w64 (b.places - 1))) (SP ⟨0, 0⟩) (SP (spanD b yes3 yes2 c.toNat p.toNat b.base.toNat))) := by
  refine ctr_of_wp hmix Try.func39 m39 rfl ?_
  unfold v39 ansR
  simp (config := { failIfUnchanged := false }) (disch := first | omega | (simp [wcs_len] <;> omega) | fail) only [go_sem, ↓reduceIte, reduceCtorEq, Nat.reduceEqDiff, Nat.reduceAdd, Nat.reduceMul, Nat.reduceSub, Nat.reduceLeDiff, Int.reduceEq, Int.reduceLT, Int.reduceLE, Int.reduceAdd, Int.reduceSub, Int.reduceMul, Int.reduceNeg, Int.reduceToNat]
  refine wcall (c78 b c) ?_
  simp (config := { failIfUnchanged := false }) (disch := first | omega | (simp [wcs_len] <;> omega) | fail) only [go_sem, ↓reduceIte, reduceCtorEq, Nat.reduceEqDiff, Nat.reduceAdd, Nat.reduceMul, Nat.reduceSub, Nat.reduceLeDiff, Int.reduceEq, Int.reduceLT, Int.reduceLE, Int.reduceAdd, Int.reduceSub, Int.reduceMul, Int.reduceNeg, Int.reduceToNat]
  refine WGd_bool (fun h1 => ?_) (fun h1 => ?_)
  · simp (config := { failIfUnchanged := false }) (disch := first | omega | (simp [wcs_len] <;> omega) | fail) only [go_sem, ↓reduceIte, reduceCtorEq, Nat.reduceEqDiff, Nat.reduceAdd, Nat.reduceMul, Nat.reduceSub, Nat.reduceLeDiff, Int.reduceEq, Int.reduceLT, Int.reduceLE, Int.reduceAdd, Int.reduceSub, Int.reduceMul, Int.reduceNeg, Int.reduceToNat, h1]
    refine wcall (c84 b p) ?_
    simp (config := { failIfUnchanged := false }) (disch := first | omega | (simp [wcs_len] <;> omega) | fail) only [go_sem, ↓reduceIte, reduceCtorEq, Nat.reduceEqDiff, Nat.reduceAdd, Nat.reduceMul, Nat.reduceSub, Nat.reduceLeDiff, Int.reduceEq, Int.reduceLT, Int.reduceLE, Int.reduceAdd, Int.reduceSub, Int.reduceMul, Int.reduceNeg, Int.reduceToNat, h1]
    refine wcall (c77g b hs _) ?_
    unfold knownR
    cases hc : checkB b with
    | false => simp (config := { failIfUnchanged := false }) (disch := first | omega | (simp [wcs_len] <;> omega) | fail) only [go_sem, ↓reduceIte, reduceCtorEq, Nat.reduceEqDiff, Nat.reduceAdd, Nat.reduceMul, Nat.reduceSub, Nat.reduceLeDiff, Int.reduceEq, Int.reduceLT, Int.reduceLE, Int.reduceAdd, Int.reduceSub, Int.reduceMul, Int.reduceNeg, Int.reduceToNat]
    | true =>
      cases h2 : within p 0 (w64 (b.places - 1)) with
      | false => simp (config := { failIfUnchanged := false }) (disch := first | omega | (simp [wcs_len] <;> omega) | fail) only [go_sem, ↓reduceIte, reduceCtorEq, Nat.reduceEqDiff, Nat.reduceAdd, Nat.reduceMul, Nat.reduceSub, Nat.reduceLeDiff, Int.reduceEq, Int.reduceLT, Int.reduceLE, Int.reduceAdd, Int.reduceSub, Int.reduceMul, Int.reduceNeg, Int.reduceToNat, h1]
      | true =>
        have hv := val_of_check hc
        have hpl := hv.hp
        rw [w64_id (by omega)] at h2
        have h1' : 0 ≤ c ∧ c ≤ b.cords.length := by simpa [within] using h1
        have h2' : 0 ≤ p ∧ p ≤ b.places - 1 := by simpa [within] using h2
        by_cases hz : (solveL b yes3 yes2).r = 0
        · simp (config := { failIfUnchanged := false }) (disch := first | omega | (simp [wcs_len] <;> omega) | fail) only [go_sem, ↓reduceIte, reduceCtorEq, Nat.reduceEqDiff, Nat.reduceAdd, Nat.reduceMul, Nat.reduceSub, Nat.reduceLeDiff, Int.reduceEq, Int.reduceLT, Int.reduceLE, Int.reduceAdd, Int.reduceSub, Int.reduceMul, Int.reduceNeg, Int.reduceToNat, h1, hz]
        · simp (config := { failIfUnchanged := false }) (disch := first | omega | (simp [wcs_len] <;> omega) | fail) only [go_sem, ↓reduceIte, reduceCtorEq, Nat.reduceEqDiff, Nat.reduceAdd, Nat.reduceMul, Nat.reduceSub, Nat.reduceLeDiff, Int.reduceEq, Int.reduceLT, Int.reduceLE, Int.reduceAdd, Int.reduceSub, Int.reduceMul, Int.reduceNeg, Int.reduceToNat, h1, hz]
          obtain ⟨cn, rfl⟩ : ∃ m : Nat, c = m := ⟨c.toNat, by omega⟩
          obtain ⟨pn, rfl⟩ : ∃ m : Nat, p = m := ⟨p.toNat, by omega⟩
          refine wcall (c80 b hv 100 101 [] [] yes3 yes2 (fun c p d _ _ _ => c100 c p d) (fun p n _ _ => c101 p n) cn pn) ?_
          simp (config := { failIfUnchanged := false }) (disch := first | omega | (simp [wcs_len] <;> omega) | fail) only [go_sem, ↓reduceIte, reduceCtorEq, Nat.reduceEqDiff, Nat.reduceAdd, Nat.reduceMul, Nat.reduceSub, Nat.reduceLeDiff, Int.reduceEq, Int.reduceLT, Int.reduceLE, Int.reduceAdd, Int.reduceSub, Int.reduceMul, Int.reduceNeg, Int.reduceToNat]
  · simp (config := { failIfUnchanged := false }) (disch := first | omega | (simp [wcs_len] <;> omega) | fail) only [go_sem, ↓reduceIte, reduceCtorEq, Nat.reduceEqDiff, Nat.reduceAdd, Nat.reduceMul, Nat.reduceSub, Nat.reduceLeDiff, Int.reduceEq, Int.reduceLT, Int.reduceLE, Int.reduceAdd, Int.reduceSub, Int.reduceMul, Int.reduceNeg, Int.reduceToNat, h1]
    refine wcall (c77g b hs _) ?_
    unfold knownR
    cases hc : checkB b with
    | false => simp (config := { failIfUnchanged := false }) (disch := first | omega | (simp [wcs_len] <;> omega) | fail) only [go_sem, ↓reduceIte, reduceCtorEq, Nat.reduceEqDiff, Nat.reduceAdd, Nat.reduceMul, Nat.reduceSub, Nat.reduceLeDiff, Int.reduceEq, Int.reduceLT, Int.reduceLE, Int.reduceAdd, Int.reduceSub, Int.reduceMul, Int.reduceNeg, Int.reduceToNat]
    | true => simp (config := { failIfUnchanged := false }) (disch := first | omega | (simp [wcs_len] <;> omega) | fail) only [go_sem, ↓reduceIte, reduceCtorEq, Nat.reduceEqDiff, Nat.reduceAdd, Nat.reduceMul, Nat.reduceSub, Nat.reduceLeDiff, Int.reduceEq, Int.reduceLT, Int.reduceLE, Int.reduceAdd, Int.reduceSub, Int.reduceMul, Int.reduceNeg, Int.reduceToNat, h1]

end Go.Proofs.Ytkkiipjfbebipaa

/- Sure. -/
set_option linter.unusedSimpArgs false
set_option linter.unusedVariables false
set_option linter.unnecessarySimpa false
namespace Go.Proofs.Ytkkiipjfbebipaa
open Go Go.V

theorem c82 (s : Sp) : Ctr Try.prog 82 [SP s] (.int s.lo) := by
  refine ctr_of_wp hmix Try.func82 m82 rfl ?_
  unfold v82
  simp (config := { failIfUnchanged := false }) (disch := first | omega | (simp [wcs_len] <;> omega) | fail) only [go_sem, ↓reduceIte, reduceCtorEq, Nat.reduceEqDiff, Nat.reduceAdd, Nat.reduceMul, Nat.reduceSub, Nat.reduceLeDiff, Int.reduceEq, Int.reduceLT, Int.reduceLE, Int.reduceAdd, Int.reduceSub, Int.reduceMul, Int.reduceNeg, Int.reduceToNat]

theorem c83 (s : Sp) : Ctr Try.prog 83 [SP s] (.int s.hi) := by
  refine ctr_of_wp hmix Try.func83 m83 rfl ?_
  unfold v83
  simp (config := { failIfUnchanged := false }) (disch := first | omega | (simp [wcs_len] <;> omega) | fail) only [go_sem, ↓reduceIte, reduceCtorEq, Nat.reduceEqDiff, Nat.reduceAdd, Nat.reduceMul, Nat.reduceSub, Nat.reduceLeDiff, Int.reduceEq, Int.reduceLT, Int.reduceLE, Int.reduceAdd, Int.reduceSub, Int.reduceMul, Int.reduceNeg, Int.reduceToNat]

theorem spanD_bound (b : Bk) (hb : 2 ≤ b.base) (may : Nat → Nat → Nat → Bool) (carry : Nat → Nat → Bool) (cord place : Nat) : ∀ m, m ≤ b.base.toNat →
    0 ≤ (spanD b may carry cord place m).lo ∧ (spanD b may carry cord place m).lo ≤ b.base ∧ 0 ≤ (spanD b may carry cord place m).hi ∧ (spanD b may carry cord place m).hi ≤ b.base
  | 0, _ => by simp [spanD]; omega
  | m + 1, h => by
    have ih := spanD_bound b hb may carry cord place m (by omega)
    have e : spanD b may carry cord place (m + 1) = if 0 < manyD b may carry cord place m then ⟨min (spanD b may carry cord place m).lo m, max (spanD b may carry cord place m).hi m⟩ else spanD b may carry cord place m := by
      unfold spanD
      rw [List.range_succ, List.foldl_append]
      rfl
    rw [e]
    split
    · dsimp only; omega
    · exact ih

/-- An end of what a cord has. -/
def endF (b : Bk) (carry : Nat → Nat → Bool) (cord : Nat) (sel : Sp → Int) : Nat → Nat → (Nat → Nat → Nat → Bool) → Int → Int
  | _, 0, _, n => n
  | p, k + 1, may, n => endF b carry cord sel (p + 1) k (onlyF may cord p (sel (spanD b may carry cord p b.base.toNat)).toNat) (numL b.base [n, sel (spanD b may carry cord p b.base.toNat)])

theorem c79 (b : Bk) (hv : Val b) (g g2 : Nat) (caps caps2 : List AV) (may : Nat → Nat → Nat → Bool) (carry : Nat → Nat → Bool)
    (hmay : ∀ c p d : Nat, c ≤ b.cords.length → p < b.places.toNat → d < b.base.toNat → Ctr Try.prog g ([.int c, .int p, .int d] ++ caps) (.bool (may c p d)))
    (hcarry : ∀ p n : Nat, p < b.places.toNat → n ≤ 50 → Ctr Try.prog g2 ([.int p, .int n] ++ caps2) (.bool (carry p n))) (cord : Nat)
    (gs : Nat) (sel : Sp → Int) (hsel : ∀ s : Sp, Ctr Try.prog gs [SP s] (.int (sel s))) (hsel2 : ∀ s : Sp, sel s = s.lo ∨ sel s = s.hi) :
    Ctr Try.prog 79 [.clo gs [] [], .ref 6 [LM b (.clo g [] caps) (.clo g2 [] caps2)] 0 0, .ref 4 [KB b] 0 0, .ref 1 [.agg [.int cord]] 0 0] (.int (endF b carry cord sel 0 b.places.toNat may 0)) := by
  refine ctr_of_wp hmix Try.func79 m79 rfl ?_
  unfold v79
  obtain ⟨hb1, hb2⟩ := hv.hb
  obtain ⟨hp1, hp2⟩ := hv.hp
  obtain ⟨PL, hPL⟩ : ∃ p : Nat, b.places = p := ⟨b.places.toNat, by omega⟩
  have hPn : b.places.toNat = PL := by omega
  simp (config := { failIfUnchanged := false }) (disch := first | omega | (simp [wcs_len] <;> omega) | fail) only [go_sem, ↓reduceIte, reduceCtorEq, Nat.reduceEqDiff, Nat.reduceAdd, Nat.reduceMul, Nat.reduceSub, Nat.reduceLeDiff, Int.reduceEq, Int.reduceLT, Int.reduceLE, Int.reduceAdd, Int.reduceSub, Int.reduceMul, Int.reduceNeg, Int.reduceToNat]
  refine wp_loop' (Nat × Nat × List AV × (Nat → Nat → Nat → Bool) × Int) (fun x => ⟨[(0, .clo gs [] []), (2, .ref 4 [KB b] 0 0), (3, .ref 1 [.agg [.int cord]] 0 0), (6, .int x.2.2.2.2), (7, .ptr 7 0), (12, .int b.places), (13, .int x.1)],
    [(7, ⟨[.int b.base, .int b.places, .sl 1 (b.cords.map SS) .sh, SS b.top, .clo x.2.1 [] x.2.2.1, .clo g2 [] caps2], false⟩)], [], none⟩)
    (fun x => x.1 ≤ PL ∧ (∀ c p d : Nat, c ≤ b.cords.length → p < b.places.toNat → d < b.base.toNat → Ctr Try.prog x.2.1 ([.int c, .int p, .int d] ++ x.2.2.1) (.bool (x.2.2.2.1 c p d))) ∧ endF b carry cord sel x.1 (PL - x.1) x.2.2.2.1 x.2.2.2.2 = endF b carry cord sel 0 PL may 0)
    (fun x => PL - x.1) (0, g, caps, may, 0) ⟨by simp, hmay, by simp⟩ (by simp (config := { failIfUnchanged := false }) (disch := first | omega | (simp [wcs_len] <;> omega) | fail) only [go_sem, ↓reduceIte, reduceCtorEq, Nat.reduceEqDiff, Nat.reduceAdd, Nat.reduceMul, Nat.reduceSub, Nat.reduceLeDiff, Int.reduceEq, Int.reduceLT, Int.reduceLE, Int.reduceAdd, Int.reduceSub, Int.reduceMul, Int.reduceNeg, Int.reduceToNat]; simp) ?_
  rintro ⟨p, g', caps', may', n⟩ ⟨hp, hm, he⟩
  dsimp only at hp hm he ⊢
  simp (config := { failIfUnchanged := false }) (disch := first | omega | (simp [wcs_len] <;> omega) | fail) only [go_sem, ↓reduceIte, reduceCtorEq, Nat.reduceEqDiff, Nat.reduceAdd, Nat.reduceMul, Nat.reduceSub, Nat.reduceLeDiff, Int.reduceEq, Int.reduceLT, Int.reduceLE, Int.reduceAdd, Int.reduceSub, Int.reduceMul, Int.reduceNeg, Int.reduceToNat]
  refine wcond_dec (fun h => ?_) (fun h => ?_)
  · simp (config := { failIfUnchanged := false }) (disch := first | omega | (simp [wcs_len] <;> omega) | fail) only [go_sem, ↓reduceIte, reduceCtorEq, Nat.reduceEqDiff, Nat.reduceAdd, Nat.reduceMul, Nat.reduceSub, Nat.reduceLeDiff, Int.reduceEq, Int.reduceLT, Int.reduceLE, Int.reduceAdd, Int.reduceSub, Int.reduceMul, Int.reduceNeg, Int.reduceToNat]
    have hlt : p < PL := by omega
    refine wcall (c80 b hv g' g2 caps' caps2 may' carry hm hcarry cord p) ?_
    simp (config := { failIfUnchanged := false }) (disch := first | omega | (simp [wcs_len] <;> omega) | fail) only [go_sem, ↓reduceIte, reduceCtorEq, Nat.reduceEqDiff, Nat.reduceAdd, Nat.reduceMul, Nat.reduceSub, Nat.reduceLeDiff, Int.reduceEq, Int.reduceLT, Int.reduceLE, Int.reduceAdd, Int.reduceSub, Int.reduceMul, Int.reduceNeg, Int.reduceToNat]
    refine wcall (hsel _) ?_
    simp (config := { failIfUnchanged := false }) (disch := first | omega | (simp [wcs_len] <;> omega) | fail) only [go_sem, ↓reduceIte, reduceCtorEq, Nat.reduceEqDiff, Nat.reduceAdd, Nat.reduceMul, Nat.reduceSub, Nat.reduceLeDiff, Int.reduceEq, Int.reduceLT, Int.reduceLE, Int.reduceAdd, Int.reduceSub, Int.reduceMul, Int.reduceNeg, Int.reduceToNat]
    have hbd := spanD_bound b hb1 may' carry cord p b.base.toNat (Nat.le_refl _)
    obtain ⟨d, hd⟩ : ∃ d : Nat, sel (spanD b may' carry cord p b.base.toNat) = d := ⟨(sel (spanD b may' carry cord p b.base.toNat)).toNat, by
      rcases hsel2 (spanD b may' carry cord p b.base.toNat) with e | e <;> omega⟩
    rw [hd]
    refine wcall (c81 b.base [n, d] (by simp)) ?_
    simp (config := { failIfUnchanged := false }) (disch := first | omega | (simp [wcs_len] <;> omega) | fail) only [go_sem, ↓reduceIte, reduceCtorEq, Nat.reduceEqDiff, Nat.reduceAdd, Nat.reduceMul, Nat.reduceSub, Nat.reduceLeDiff, Int.reduceEq, Int.reduceLT, Int.reduceLE, Int.reduceAdd, Int.reduceSub, Int.reduceMul, Int.reduceNeg, Int.reduceToNat]
    refine wcall (c74 b g' g2 caps' caps2 cord p d) ?_
    simp (config := { failIfUnchanged := false }) (disch := first | omega | (simp [wcs_len] <;> omega) | fail) only [go_sem, ↓reduceIte, reduceCtorEq, Nat.reduceEqDiff, Nat.reduceAdd, Nat.reduceMul, Nat.reduceSub, Nat.reduceLeDiff, Int.reduceEq, Int.reduceLT, Int.reduceLE, Int.reduceAdd, Int.reduceSub, Int.reduceMul, Int.reduceNeg, Int.reduceToNat]
    refine ⟨(p + 1, 108, capsO g' caps' cord p d, onlyF may' cord p d, numL b.base [n, d]), ⟨by dsimp only; omega, fun c q d' h1 h2 h3 => c108 g' caps' may' cord p d c q d' (hm c q d' h1 h2 h3), ?_⟩, by dsimp only; omega, ?_⟩
    · dsimp only
      rw [← he, show PL - p = (PL - (p + 1)) + 1 by omega]
      simp only [endF, hd, Int.toNat_natCast]
    · simp (config := { failIfUnchanged := false }) (disch := first | omega | (simp [wcs_len] <;> omega) | fail) only [go_sem, ↓reduceIte, reduceCtorEq, Nat.reduceEqDiff, Nat.reduceAdd, Nat.reduceMul, Nat.reduceSub, Nat.reduceLeDiff, Int.reduceEq, Int.reduceLT, Int.reduceLE, Int.reduceAdd, Int.reduceSub, Int.reduceMul, Int.reduceNeg, Int.reduceToNat]
      simp
  · simp (config := { failIfUnchanged := false }) (disch := first | omega | (simp [wcs_len] <;> omega) | fail) only [go_sem, ↓reduceIte, reduceCtorEq, Nat.reduceEqDiff, Nat.reduceAdd, Nat.reduceMul, Nat.reduceSub, Nat.reduceLeDiff, Int.reduceEq, Int.reduceLT, Int.reduceLE, Int.reduceAdd, Int.reduceSub, Int.reduceMul, Int.reduceNeg, Int.reduceToNat]
    have e : p = PL := by omega
    rw [hPn, ← he, e, Nat.sub_self]
    rfl

/-- Between what a cord has. -/
def sureD (b : Bk) (cord : Nat) : Sp := ⟨endF b yes2 cord (fun s => s.lo) 0 b.places.toNat yes3 0, endF b yes2 cord (fun s => s.hi) 0 b.places.toNat yes3 0⟩

theorem c35 (b : Bk) (hs : Small b) (c : Int) : Ctr Try.prog 35 [KB b, .int c]
    (ansR b (within c 0 b.cords.length) (SP ⟨0, 0⟩) (SP (sureD b c.toNat))) := by
  refine ctr_of_wp hmix Try.func35 m35 rfl ?_
  unfold v35 ansR
  simp (config := { failIfUnchanged := false }) (disch := first | omega | (simp [wcs_len] <;> omega) | fail) only [go_sem, ↓reduceIte, reduceCtorEq, Nat.reduceEqDiff, Nat.reduceAdd, Nat.reduceMul, Nat.reduceSub, Nat.reduceLeDiff, Int.reduceEq, Int.reduceLT, Int.reduceLE, Int.reduceAdd, Int.reduceSub, Int.reduceMul, Int.reduceNeg, Int.reduceToNat]
  refine wcall (c78 b c) ?_
  simp (config := { failIfUnchanged := false }) (disch := first | omega | (simp [wcs_len] <;> omega) | fail) only [go_sem, ↓reduceIte, reduceCtorEq, Nat.reduceEqDiff, Nat.reduceAdd, Nat.reduceMul, Nat.reduceSub, Nat.reduceLeDiff, Int.reduceEq, Int.reduceLT, Int.reduceLE, Int.reduceAdd, Int.reduceSub, Int.reduceMul, Int.reduceNeg, Int.reduceToNat]
  refine wcall (c77g b hs _) ?_
  unfold knownR
  cases hc : checkB b with
  | false => simp (config := { failIfUnchanged := false }) (disch := first | omega | (simp [wcs_len] <;> omega) | fail) only [go_sem, ↓reduceIte, reduceCtorEq, Nat.reduceEqDiff, Nat.reduceAdd, Nat.reduceMul, Nat.reduceSub, Nat.reduceLeDiff, Int.reduceEq, Int.reduceLT, Int.reduceLE, Int.reduceAdd, Int.reduceSub, Int.reduceMul, Int.reduceNeg, Int.reduceToNat]
  | true =>
    cases h1 : within c 0 b.cords.length with
    | false => simp (config := { failIfUnchanged := false }) (disch := first | omega | (simp [wcs_len] <;> omega) | fail) only [go_sem, ↓reduceIte, reduceCtorEq, Nat.reduceEqDiff, Nat.reduceAdd, Nat.reduceMul, Nat.reduceSub, Nat.reduceLeDiff, Int.reduceEq, Int.reduceLT, Int.reduceLE, Int.reduceAdd, Int.reduceSub, Int.reduceMul, Int.reduceNeg, Int.reduceToNat]
    | true =>
      have hv := val_of_check hc
      have h1' : 0 ≤ c ∧ c ≤ b.cords.length := by simpa [within] using h1
      by_cases hz : (solveL b yes3 yes2).r = 0
      · simp (config := { failIfUnchanged := false }) (disch := first | omega | (simp [wcs_len] <;> omega) | fail) only [go_sem, ↓reduceIte, reduceCtorEq, Nat.reduceEqDiff, Nat.reduceAdd, Nat.reduceMul, Nat.reduceSub, Nat.reduceLeDiff, Int.reduceEq, Int.reduceLT, Int.reduceLE, Int.reduceAdd, Int.reduceSub, Int.reduceMul, Int.reduceNeg, Int.reduceToNat, hz]
      · simp (config := { failIfUnchanged := false }) (disch := first | omega | (simp [wcs_len] <;> omega) | fail) only [go_sem, ↓reduceIte, reduceCtorEq, Nat.reduceEqDiff, Nat.reduceAdd, Nat.reduceMul, Nat.reduceSub, Nat.reduceLeDiff, Int.reduceEq, Int.reduceLT, Int.reduceLE, Int.reduceAdd, Int.reduceSub, Int.reduceMul, Int.reduceNeg, Int.reduceToNat, hz]
        obtain ⟨cn, rfl⟩ : ∃ m : Nat, c = m := ⟨c.toNat, by omega⟩
        refine wcall (c79 b hv 100 101 [] [] yes3 yes2 (fun c p d _ _ _ => c100 c p d) (fun p n _ _ => c101 p n) cn 82 (fun s => s.lo) c82 (fun s => .inl rfl)) ?_
        simp (config := { failIfUnchanged := false }) (disch := first | omega | (simp [wcs_len] <;> omega) | fail) only [go_sem, ↓reduceIte, reduceCtorEq, Nat.reduceEqDiff, Nat.reduceAdd, Nat.reduceMul, Nat.reduceSub, Nat.reduceLeDiff, Int.reduceEq, Int.reduceLT, Int.reduceLE, Int.reduceAdd, Int.reduceSub, Int.reduceMul, Int.reduceNeg, Int.reduceToNat]
        refine wcall (c79 b hv 100 101 [] [] yes3 yes2 (fun c p d _ _ _ => c100 c p d) (fun p n _ _ => c101 p n) cn 83 (fun s => s.hi) c83 (fun s => .inr rfl)) ?_
        simp (config := { failIfUnchanged := false }) (disch := first | omega | (simp [wcs_len] <;> omega) | fail) only [go_sem, ↓reduceIte, reduceCtorEq, Nat.reduceEqDiff, Nat.reduceAdd, Nat.reduceMul, Nat.reduceSub, Nat.reduceLeDiff, Int.reduceEq, Int.reduceLT, Int.reduceLE, Int.reduceAdd, Int.reduceSub, Int.reduceMul, Int.reduceNeg, Int.reduceToNat]
        simp [sureD]

end Go.Proofs.Ytkkiipjfbebipaa

/- Carry. -/
set_option linter.unusedSimpArgs false
set_option linter.unusedVariables false
set_option linter.unnecessarySimpa false
namespace Go.Proofs.Ytkkiipjfbebipaa
open Go Go.V

def carryF (place n p m : Nat) : Bool := decide (¬ p = place) || decide (m = n)

abbrev capsC (place n : Nat) : List AV := [.ref 1 [.agg [.int place]] 0 0, .ref 1 [.agg [.int n]] 0 0]

theorem c89 (place n p m : Nat) : Ctr Try.prog 89 ([.int p, .int m] ++ capsC place n) (.bool (carryF place n p m)) := by
  refine ctr_of_wp hmix Try.func89 m89 rfl ?_
  unfold v89
  simp (config := { failIfUnchanged := false }) (disch := first | omega | (simp [wcs_len] <;> omega) | fail) only [go_sem, ↓reduceIte, reduceCtorEq, Nat.reduceEqDiff, Nat.reduceAdd, Nat.reduceMul, Nat.reduceSub, Nat.reduceLeDiff, Int.reduceEq, Int.reduceLT, Int.reduceLE, Int.reduceAdd, Int.reduceSub, Int.reduceMul, Int.reduceNeg, Int.reduceToNat]
  refine WGd_bool (fun h => ?_) (fun h => ?_)
  · simp (config := { failIfUnchanged := false }) (disch := first | omega | (simp [wcs_len] <;> omega) | fail) only [go_sem, ↓reduceIte, reduceCtorEq, Nat.reduceEqDiff, Nat.reduceAdd, Nat.reduceMul, Nat.reduceSub, Nat.reduceLeDiff, Int.reduceEq, Int.reduceLT, Int.reduceLE, Int.reduceAdd, Int.reduceSub, Int.reduceMul, Int.reduceNeg, Int.reduceToNat, h]
    simp only [Bool.not_eq_false', decide_eq_false_iff_not, Decidable.not_not] at h
    have e : p = place := by first | omega | (simp at h; omega)
    have e2 : ((m : Int) = (n : Int)) ↔ m = n := by omega
    simp [carryF, e, e2]
  · simp (config := { failIfUnchanged := false }) (disch := first | omega | (simp [wcs_len] <;> omega) | fail) only [go_sem, ↓reduceIte, reduceCtorEq, Nat.reduceEqDiff, Nat.reduceAdd, Nat.reduceMul, Nat.reduceSub, Nat.reduceLeDiff, Int.reduceEq, Int.reduceLT, Int.reduceLE, Int.reduceAdd, Int.reduceSub, Int.reduceMul, Int.reduceNeg, Int.reduceToNat, h]
    have e : ¬ p = place := by first | omega | (simp at h; omega)
    simp [carryF, e]

def carryD (b : Bk) (place : Nat) (k : Nat) : Sp :=
  (List.range k).foldl (fun s n => if 0 < (solveL b yes3 (carryF place n)).r then ⟨min s.lo n, n⟩ else s) ⟨51, 0⟩

theorem c47 (b : Bk) (hs : Small b) (p : Int) : Ctr Try.prog 47 [KB b, .int p]
    (ansR b (within p 0 (w64 (b.places - 1))) (SP ⟨0, 0⟩) (SP (carryD b p.toNat 51))) := by
  refine ctr_of_wp hmix Try.func47 m47 rfl ?_
  unfold v47 ansR
  simp (config := { failIfUnchanged := false }) (disch := first | omega | (simp [wcs_len] <;> omega) | fail) only [go_sem, ↓reduceIte, reduceCtorEq, Nat.reduceEqDiff, Nat.reduceAdd, Nat.reduceMul, Nat.reduceSub, Nat.reduceLeDiff, Int.reduceEq, Int.reduceLT, Int.reduceLE, Int.reduceAdd, Int.reduceSub, Int.reduceMul, Int.reduceNeg, Int.reduceToNat]
  refine wcall (c84 b p) ?_
  simp (config := { failIfUnchanged := false }) (disch := first | omega | (simp [wcs_len] <;> omega) | fail) only [go_sem, ↓reduceIte, reduceCtorEq, Nat.reduceEqDiff, Nat.reduceAdd, Nat.reduceMul, Nat.reduceSub, Nat.reduceLeDiff, Int.reduceEq, Int.reduceLT, Int.reduceLE, Int.reduceAdd, Int.reduceSub, Int.reduceMul, Int.reduceNeg, Int.reduceToNat]
  refine wcall (c77g b hs _) ?_
  unfold knownR
  cases hc : checkB b with
  | false => simp (config := { failIfUnchanged := false }) (disch := first | omega | (simp [wcs_len] <;> omega) | fail) only [go_sem, ↓reduceIte, reduceCtorEq, Nat.reduceEqDiff, Nat.reduceAdd, Nat.reduceMul, Nat.reduceSub, Nat.reduceLeDiff, Int.reduceEq, Int.reduceLT, Int.reduceLE, Int.reduceAdd, Int.reduceSub, Int.reduceMul, Int.reduceNeg, Int.reduceToNat]
  | true =>
    cases h1 : within p 0 (w64 (b.places - 1)) with
    | false => simp (config := { failIfUnchanged := false }) (disch := first | omega | (simp [wcs_len] <;> omega) | fail) only [go_sem, ↓reduceIte, reduceCtorEq, Nat.reduceEqDiff, Nat.reduceAdd, Nat.reduceMul, Nat.reduceSub, Nat.reduceLeDiff, Int.reduceEq, Int.reduceLT, Int.reduceLE, Int.reduceAdd, Int.reduceSub, Int.reduceMul, Int.reduceNeg, Int.reduceToNat]
    | true =>
      have hv := val_of_check hc
      have hpl := hv.hp
      rw [w64_id (by omega)] at h1
      have h1' : 0 ≤ p ∧ p ≤ b.places - 1 := by simpa [within] using h1
      by_cases hz : (solveL b yes3 yes2).r = 0
      · simp (config := { failIfUnchanged := false }) (disch := first | omega | (simp [wcs_len] <;> omega) | fail) only [go_sem, ↓reduceIte, reduceCtorEq, Nat.reduceEqDiff, Nat.reduceAdd, Nat.reduceMul, Nat.reduceSub, Nat.reduceLeDiff, Int.reduceEq, Int.reduceLT, Int.reduceLE, Int.reduceAdd, Int.reduceSub, Int.reduceMul, Int.reduceNeg, Int.reduceToNat, hz]
      · simp (config := { failIfUnchanged := false }) (disch := first | omega | (simp [wcs_len] <;> omega) | fail) only [go_sem, ↓reduceIte, reduceCtorEq, Nat.reduceEqDiff, Nat.reduceAdd, Nat.reduceMul, Nat.reduceSub, Nat.reduceLeDiff, Int.reduceEq, Int.reduceLT, Int.reduceLE, Int.reduceAdd, Int.reduceSub, Int.reduceMul, Int.reduceNeg, Int.reduceToNat, hz]
        obtain ⟨q, rfl⟩ : ∃ m : Nat, p = m := ⟨p.toNat, by omega⟩
        refine wp_loopF [3] (Nat × Sp × AV) (fun x => ⟨[(3, .ptr 3 0), (4, .ptr 4 0), (6, .ptr 6 0), (8, .ptr 8 0), (23, .int x.1)],
          [(3, ⟨[.int q], true⟩), (4, ⟨[.int 0, .int 0], false⟩), (6, ⟨[.int b.base, .int b.places, .sl 1 (b.cords.map SS) .sh, SS b.top, .clo 100 [] [], x.2.2], false⟩), (8, ⟨[.int x.2.1.lo, .int x.2.1.hi], false⟩)], [], none⟩)
          (fun x => x.1 ≤ 51 ∧ x.2.1 = carryD b q x.1 ∧ ∃ g caps, x.2.2 = .clo g [] caps) (fun x => 51 - x.1) (0, carryD b q 0, .clo 101 [] []) ⟨by simp, rfl, _, _, rfl⟩ (by simp (config := { failIfUnchanged := false }) (disch := first | omega | (simp [wcs_len] <;> omega) | fail) only [go_sem, ↓reduceIte, reduceCtorEq, Nat.reduceEqDiff, Nat.reduceAdd, Nat.reduceMul, Nat.reduceSub, Nat.reduceLeDiff, Int.reduceEq, Int.reduceLT, Int.reduceLE, Int.reduceAdd, Int.reduceSub, Int.reduceMul, Int.reduceNeg, Int.reduceToNat]; simp [carryD]) ?_
        rintro ⟨n, s, cl⟩ ⟨hn, hs', g, caps, hcl⟩
        dsimp only at hn hs' hcl ⊢
        subst hcl
        have hsucc : carryD b q (n + 1) = if 0 < (solveL b yes3 (carryF q n)).r then ⟨min s.lo n, n⟩ else s := by
          rw [hs', carryD, List.range_succ, List.foldl_append]
          rfl
        simp (config := { failIfUnchanged := false }) (disch := first | omega | (simp [wcs_len] <;> omega) | fail) only [go_sem, ↓reduceIte, reduceCtorEq, Nat.reduceEqDiff, Nat.reduceAdd, Nat.reduceMul, Nat.reduceSub, Nat.reduceLeDiff, Int.reduceEq, Int.reduceLT, Int.reduceLE, Int.reduceAdd, Int.reduceSub, Int.reduceMul, Int.reduceNeg, Int.reduceToNat]
        refine wcond_dec (fun h => ?_) (fun h => ?_)
        · simp (config := { failIfUnchanged := false }) (disch := first | omega | (simp [wcs_len] <;> omega) | fail) only [go_sem, ↓reduceIte, reduceCtorEq, Nat.reduceEqDiff, Nat.reduceAdd, Nat.reduceMul, Nat.reduceSub, Nat.reduceLeDiff, Int.reduceEq, Int.reduceLT, Int.reduceLE, Int.reduceAdd, Int.reduceSub, Int.reduceMul, Int.reduceNeg, Int.reduceToNat]
          refine wcall (c65 b hv 100 89 [] (capsC q n) yes3 (carryF q n) (fun c p d _ _ _ => c100 c p d) (fun p m _ _ => c89 q n p m)) ?_
          simp (config := { failIfUnchanged := false }) (disch := first | omega | (simp [wcs_len] <;> omega) | fail) only [go_sem, ↓reduceIte, reduceCtorEq, Nat.reduceEqDiff, Nat.reduceAdd, Nat.reduceMul, Nat.reduceSub, Nat.reduceLeDiff, Int.reduceEq, Int.reduceLT, Int.reduceLE, Int.reduceAdd, Int.reduceSub, Int.reduceMul, Int.reduceNeg, Int.reduceToNat]
          refine wcond_dec (fun h2 => ?_) (fun h2 => ?_)
          · simp (config := { failIfUnchanged := false }) (disch := first | omega | (simp [wcs_len] <;> omega) | fail) only [go_sem, ↓reduceIte, reduceCtorEq, Nat.reduceEqDiff, Nat.reduceAdd, Nat.reduceMul, Nat.reduceSub, Nat.reduceLeDiff, Int.reduceEq, Int.reduceLT, Int.reduceLE, Int.reduceAdd, Int.reduceSub, Int.reduceMul, Int.reduceNeg, Int.reduceToNat]
            refine ⟨(n + 1, ⟨min s.lo n, n⟩, .clo 89 [] (capsC q n)), ⟨by dsimp only; omega, by rw [hsucc, if_pos h2], _, _, rfl⟩, by dsimp only; omega, ?_⟩
            simp (config := { failIfUnchanged := false }) (disch := first | omega | (simp [wcs_len] <;> omega) | fail) only [go_sem, ↓reduceIte, reduceCtorEq, Nat.reduceEqDiff, Nat.reduceAdd, Nat.reduceMul, Nat.reduceSub, Nat.reduceLeDiff, Int.reduceEq, Int.reduceLT, Int.reduceLE, Int.reduceAdd, Int.reduceSub, Int.reduceMul, Int.reduceNeg, Int.reduceToNat]
            simp
          · simp (config := { failIfUnchanged := false }) (disch := first | omega | (simp [wcs_len] <;> omega) | fail) only [go_sem, ↓reduceIte, reduceCtorEq, Nat.reduceEqDiff, Nat.reduceAdd, Nat.reduceMul, Nat.reduceSub, Nat.reduceLeDiff, Int.reduceEq, Int.reduceLT, Int.reduceLE, Int.reduceAdd, Int.reduceSub, Int.reduceMul, Int.reduceNeg, Int.reduceToNat]
            refine ⟨(n + 1, s, .clo 89 [] (capsC q n)), ⟨by dsimp only; omega, by rw [hsucc, if_neg h2], _, _, rfl⟩, by dsimp only; omega, ?_⟩
            simp (config := { failIfUnchanged := false }) (disch := first | omega | (simp [wcs_len] <;> omega) | fail) only [go_sem, ↓reduceIte, reduceCtorEq, Nat.reduceEqDiff, Nat.reduceAdd, Nat.reduceMul, Nat.reduceSub, Nat.reduceLeDiff, Int.reduceEq, Int.reduceLT, Int.reduceLE, Int.reduceAdd, Int.reduceSub, Int.reduceMul, Int.reduceNeg, Int.reduceToNat]
            simp
        · simp (config := { failIfUnchanged := false }) (disch := first | omega | (simp [wcs_len] <;> omega) | fail) only [go_sem, ↓reduceIte, reduceCtorEq, Nat.reduceEqDiff, Nat.reduceAdd, Nat.reduceMul, Nat.reduceSub, Nat.reduceLeDiff, Int.reduceEq, Int.reduceLT, Int.reduceLE, Int.reduceAdd, Int.reduceSub, Int.reduceMul, Int.reduceNeg, Int.reduceToNat]
          have e : n = 51 := by omega
          rw [hs', e]

end Go.Proofs.Ytkkiipjfbebipaa

/- Ask. -/
set_option linter.unusedSimpArgs false
set_option linter.unusedVariables false
set_option linter.unnecessarySimpa false
namespace Go.Proofs.Ytkkiipjfbebipaa
open Go Go.V

def worstD (b : Bk) (c p k : Nat) : Int :=
  (List.range k).foldl (fun w d => if 0 < manyD b yes3 yes2 c p d then max w (manyD b yes3 yes2 c p d) else w) 0

structure As3 where
  c : Int
  p : Int
  w : Int

def askStep (b : Bk) (c : Nat) (s : As3) (p : Nat) : As3 :=
  if s.w < 0 ∨ worstD b c p b.base.toNat < s.w then ⟨c, p, worstD b c p b.base.toNat⟩ else s

def askRow (b : Bk) (c : Nat) (s : As3) (k : Nat) : As3 := (List.range k).foldl (askStep b c) s
def askD (b : Bk) (k : Nat) : As3 := (List.range k).foldl (fun s c => askRow b c s b.places.toNat) ⟨0, 0, -1⟩

theorem askRow_succ (b : Bk) (c : Nat) (s : As3) (k : Nat) : askRow b c s (k + 1) = askStep b c (askRow b c s k) k := by
  unfold askRow
  rw [List.range_succ, List.foldl_append]
  rfl

theorem askD_succ (b : Bk) (k : Nat) : askD b (k + 1) = askRow b k (askD b k) b.places.toNat := by
  unfold askD
  rw [List.range_succ, List.foldl_append]
  rfl

theorem c19 (b : Bk) (hs : Small b) : Ctr Try.prog 19 [KB b]
    (if checkB b then
      if (solveL b yes3 yes2).r < 2 then .tup [.int 0, .int 0, .int 3] else .tup [.int (askD b (b.cords.length + 1)).c, .int (askD b (b.cords.length + 1)).p, .int 0]
    else .tup [.int 0, .int 0, .int 110]) := by
  refine ctr_of_wp hmix Try.func19 m19 rfl ?_
  unfold v19
  simp (config := { failIfUnchanged := false }) (disch := first | omega | (simp [wcs_len] <;> omega) | fail) only [go_sem, ↓reduceIte, reduceCtorEq, Nat.reduceEqDiff, Nat.reduceAdd, Nat.reduceMul, Nat.reduceSub, Nat.reduceLeDiff, Int.reduceEq, Int.reduceLT, Int.reduceLE, Int.reduceAdd, Int.reduceSub, Int.reduceMul, Int.reduceNeg, Int.reduceToNat]
  refine wcall (c49 b hs) ?_
  cases hc : checkB b with
  | false => simp (config := { failIfUnchanged := false }) (disch := first | omega | (simp [wcs_len] <;> omega) | fail) only [go_sem, ↓reduceIte, reduceCtorEq, Nat.reduceEqDiff, Nat.reduceAdd, Nat.reduceMul, Nat.reduceSub, Nat.reduceLeDiff, Int.reduceEq, Int.reduceLT, Int.reduceLE, Int.reduceAdd, Int.reduceSub, Int.reduceMul, Int.reduceNeg, Int.reduceToNat]
  | true =>
    have hv := val_of_check hc
    obtain ⟨hb1, hb2⟩ := hv.hb
    obtain ⟨hp1, hp2⟩ := hv.hp
    have hc4 := hv.hc
    obtain ⟨PL, hPL⟩ : ∃ p : Nat, b.places = p := ⟨b.places.toNat, by omega⟩
    have hPn : b.places.toNat = PL := by omega
    simp (config := { failIfUnchanged := false }) (disch := first | omega | (simp [wcs_len] <;> omega) | fail) only [go_sem, ↓reduceIte, reduceCtorEq, Nat.reduceEqDiff, Nat.reduceAdd, Nat.reduceMul, Nat.reduceSub, Nat.reduceLeDiff, Int.reduceEq, Int.reduceLT, Int.reduceLE, Int.reduceAdd, Int.reduceSub, Int.reduceMul, Int.reduceNeg, Int.reduceToNat]
    refine wcall (c64 b) ?_
    simp (config := { failIfUnchanged := false }) (disch := first | omega | (simp [wcs_len] <;> omega) | fail) only [go_sem, ↓reduceIte, reduceCtorEq, Nat.reduceEqDiff, Nat.reduceAdd, Nat.reduceMul, Nat.reduceSub, Nat.reduceLeDiff, Int.reduceEq, Int.reduceLT, Int.reduceLE, Int.reduceAdd, Int.reduceSub, Int.reduceMul, Int.reduceNeg, Int.reduceToNat]
    refine wcall (c65 b hv 100 101 [] [] yes3 yes2 (fun c p d _ _ _ => c100 c p d) (fun p n _ _ => c101 p n)) ?_
    simp (config := { failIfUnchanged := false }) (disch := first | omega | (simp [wcs_len] <;> omega) | fail) only [go_sem, ↓reduceIte, reduceCtorEq, Nat.reduceEqDiff, Nat.reduceAdd, Nat.reduceMul, Nat.reduceSub, Nat.reduceLeDiff, Int.reduceEq, Int.reduceLT, Int.reduceLE, Int.reduceAdd, Int.reduceSub, Int.reduceMul, Int.reduceNeg, Int.reduceToNat]
    refine wcond_dec (fun h => ?_) (fun h => ?_)
    · simp (config := { failIfUnchanged := false }) (disch := first | omega | (simp [wcs_len] <;> omega) | fail) only [go_sem, ↓reduceIte, reduceCtorEq, Nat.reduceEqDiff, Nat.reduceAdd, Nat.reduceMul, Nat.reduceSub, Nat.reduceLeDiff, Int.reduceEq, Int.reduceLT, Int.reduceLE, Int.reduceAdd, Int.reduceSub, Int.reduceMul, Int.reduceNeg, Int.reduceToNat, h]
    · simp (config := { failIfUnchanged := false }) (disch := first | omega | (simp [wcs_len] <;> omega) | fail) only [go_sem, ↓reduceIte, reduceCtorEq, Nat.reduceEqDiff, Nat.reduceAdd, Nat.reduceMul, Nat.reduceSub, Nat.reduceLeDiff, Int.reduceEq, Int.reduceLT, Int.reduceLE, Int.reduceAdd, Int.reduceSub, Int.reduceMul, Int.reduceNeg, Int.reduceToNat, h]
      refine wcall (c66 b hs) ?_
      have hal : (allC b).length = b.cords.length + 1 := by simp [allC]
      simp (config := { failIfUnchanged := false }) (disch := first | omega | (simp [wcs_len] <;> omega) | fail) only [go_sem, ↓reduceIte, reduceCtorEq, Nat.reduceEqDiff, Nat.reduceAdd, Nat.reduceMul, Nat.reduceSub, Nat.reduceLeDiff, Int.reduceEq, Int.reduceLT, Int.reduceLE, Int.reduceAdd, Int.reduceSub, Int.reduceMul, Int.reduceNeg, Int.reduceToNat]
      rw [hal]
      refine wp_loop' (Nat × As3) (fun x => ⟨[(1, .ptr 1 0), (2, .int x.2.c), (3, .int x.2.p), (6, .ptr 6 0), (7, .int x.2.w), (25, .int ((b.cords.length + 1 : Nat) : Int)), (26, .int x.1)],
        [(6, ⟨[.int b.base, .int b.places, .sl 1 (b.cords.map SS) .sh, SS b.top, .clo 100 [] [], .clo 101 [] []], false⟩), (1, ⟨[.int b.base, .int b.places, .sl 1 (b.cords.map SS) .sh, SS b.top], false⟩)], [], none⟩)
        (fun x => x.1 ≤ b.cords.length + 1 ∧ x.2 = askD b x.1) (fun x => b.cords.length + 1 - x.1) (0, askD b 0) ⟨by simp, rfl⟩ (by simp (config := { failIfUnchanged := false }) (disch := first | omega | (simp [wcs_len] <;> omega) | fail) only [go_sem, ↓reduceIte, reduceCtorEq, Nat.reduceEqDiff, Nat.reduceAdd, Nat.reduceMul, Nat.reduceSub, Nat.reduceLeDiff, Int.reduceEq, Int.reduceLT, Int.reduceLE, Int.reduceAdd, Int.reduceSub, Int.reduceMul, Int.reduceNeg, Int.reduceToNat]; simp [askD]) ?_
      rintro ⟨c, s0⟩ ⟨hcl, hs0⟩
      dsimp only at hcl hs0 ⊢
      simp (config := { failIfUnchanged := false }) (disch := first | omega | (simp [wcs_len] <;> omega) | fail) only [go_sem, ↓reduceIte, reduceCtorEq, Nat.reduceEqDiff, Nat.reduceAdd, Nat.reduceMul, Nat.reduceSub, Nat.reduceLeDiff, Int.reduceEq, Int.reduceLT, Int.reduceLE, Int.reduceAdd, Int.reduceSub, Int.reduceMul, Int.reduceNeg, Int.reduceToNat]
      refine wcond_dec (fun h1 => ?_) (fun h1 => ?_)
      · simp (config := { failIfUnchanged := false }) (disch := first | omega | (simp [wcs_len] <;> omega) | fail) only [go_sem, ↓reduceIte, reduceCtorEq, Nat.reduceEqDiff, Nat.reduceAdd, Nat.reduceMul, Nat.reduceSub, Nat.reduceLeDiff, Int.reduceEq, Int.reduceLT, Int.reduceLE, Int.reduceAdd, Int.reduceSub, Int.reduceMul, Int.reduceNeg, Int.reduceToNat]
        refine wp_loop' (Nat × As3) (fun x => ⟨[(1, .ptr 1 0), (2, .int x.2.c), (3, .int x.2.p), (6, .ptr 6 0), (7, .int x.2.w), (8, .int c), (25, .int ((b.cords.length + 1 : Nat) : Int)), (26, .int c), (30, .int b.places), (31, .int x.1)],
          [(6, ⟨[.int b.base, .int b.places, .sl 1 (b.cords.map SS) .sh, SS b.top, .clo 100 [] [], .clo 101 [] []], false⟩), (1, ⟨[.int b.base, .int b.places, .sl 1 (b.cords.map SS) .sh, SS b.top], false⟩)], [], none⟩)
          (fun x => x.1 ≤ PL ∧ x.2 = askRow b c s0 x.1) (fun x => PL - x.1) (0, askRow b c s0 0) ⟨by simp, rfl⟩ (by simp (config := { failIfUnchanged := false }) (disch := first | omega | (simp [wcs_len] <;> omega) | fail) only [go_sem, ↓reduceIte, reduceCtorEq, Nat.reduceEqDiff, Nat.reduceAdd, Nat.reduceMul, Nat.reduceSub, Nat.reduceLeDiff, Int.reduceEq, Int.reduceLT, Int.reduceLE, Int.reduceAdd, Int.reduceSub, Int.reduceMul, Int.reduceNeg, Int.reduceToNat]; simp [askRow]) ?_
        rintro ⟨p, s⟩ ⟨hpl, hss⟩
        dsimp only at hpl hss ⊢
        simp (config := { failIfUnchanged := false }) (disch := first | omega | (simp [wcs_len] <;> omega) | fail) only [go_sem, ↓reduceIte, reduceCtorEq, Nat.reduceEqDiff, Nat.reduceAdd, Nat.reduceMul, Nat.reduceSub, Nat.reduceLeDiff, Int.reduceEq, Int.reduceLT, Int.reduceLE, Int.reduceAdd, Int.reduceSub, Int.reduceMul, Int.reduceNeg, Int.reduceToNat]
        refine wcond_dec (fun h2 => ?_) (fun h2 => ?_)
        · simp (config := { failIfUnchanged := false }) (disch := first | omega | (simp [wcs_len] <;> omega) | fail) only [go_sem, ↓reduceIte, reduceCtorEq, Nat.reduceEqDiff, Nat.reduceAdd, Nat.reduceMul, Nat.reduceSub, Nat.reduceLeDiff, Int.reduceEq, Int.reduceLT, Int.reduceLE, Int.reduceAdd, Int.reduceSub, Int.reduceMul, Int.reduceNeg, Int.reduceToNat]
          refine wcall (c67 b 100 101 [] [] c p) ?_
          simp (config := { failIfUnchanged := false }) (disch := first | omega | (simp [wcs_len] <;> omega) | fail) only [go_sem, ↓reduceIte, reduceCtorEq, Nat.reduceEqDiff, Nat.reduceAdd, Nat.reduceMul, Nat.reduceSub, Nat.reduceLeDiff, Int.reduceEq, Int.reduceLT, Int.reduceLE, Int.reduceAdd, Int.reduceSub, Int.reduceMul, Int.reduceNeg, Int.reduceToNat]
          refine wp_range' ?_
          simp (config := { failIfUnchanged := false }) (disch := first | omega | (simp [wcs_len] <;> omega) | fail) only [go_sem, ↓reduceIte, reduceCtorEq, Nat.reduceEqDiff, Nat.reduceAdd, Nat.reduceMul, Nat.reduceSub, Nat.reduceLeDiff, Int.reduceEq, Int.reduceLT, Int.reduceLE, Int.reduceAdd, Int.reduceSub, Int.reduceMul, Int.reduceNeg, Int.reduceToNat]
          refine wrange fun l T hT => ?_
          refine csem_of_wp hmix Try.func102 m102 rfl rfl ?_
          unfold v102
          simp (config := { failIfUnchanged := false }) (disch := first | omega | (simp [wcs_len] <;> omega) | fail) only [go_sem, ↓reduceIte, reduceCtorEq, Nat.reduceEqDiff, Nat.reduceAdd, Nat.reduceMul, Nat.reduceSub, Nat.reduceLeDiff, Int.reduceEq, Int.reduceLT, Int.reduceLE, Int.reduceAdd, Int.reduceSub, Int.reduceMul, Int.reduceNeg, Int.reduceToNat]
          refine wp_loopX (Nat × Int) (fun x => ⟨[(0, .yld l), (1, .ref 6 [LM b (.clo 100 [] []) (.clo 101 [] [])] 0 0), (2, .ref 1 [.agg [.int c]] 0 0), (3, .ref 1 [.agg [.int p]] 0 0), (9, .int b.base), (10, .int x.1)],
            [(10, ⟨[.int x.2], false⟩), (6, ⟨[.int b.base, .int b.places, .sl 1 (b.cords.map SS) .sh, SS b.top, .clo 100 [] [], .clo 101 [] []], false⟩), (1, ⟨[.int b.base, .int b.places, .sl 1 (b.cords.map SS) .sh, SS b.top], false⟩)], [], none⟩)
            (fun x => x.1 ≤ b.base.toNat ∧ x.2 = worstD b c p x.1) (fun x => b.base.toNat - x.1) (0, worstD b c p 0) (by simp) (by simp (config := { failIfUnchanged := false }) (disch := first | omega | (simp [wcs_len] <;> omega) | fail) only [go_sem, ↓reduceIte, reduceCtorEq, Nat.reduceEqDiff, Nat.reduceAdd, Nat.reduceMul, Nat.reduceSub, Nat.reduceLeDiff, Int.reduceEq, Int.reduceLT, Int.reduceLE, Int.reduceAdd, Int.reduceSub, Int.reduceMul, Int.reduceNeg, Int.reduceToNat]; simp [worstD]) (fun x => by simp (config := { failIfUnchanged := false }) (disch := first | omega | (simp [wcs_len] <;> omega) | fail) only [go_sem, ↓reduceIte, reduceCtorEq, Nat.reduceEqDiff, Nat.reduceAdd, Nat.reduceMul, Nat.reduceSub, Nat.reduceLeDiff, Int.reduceEq, Int.reduceLT, Int.reduceLE, Int.reduceAdd, Int.reduceSub, Int.reduceMul, Int.reduceNeg, Int.reduceToNat]) ?_
          rintro ⟨d, w⟩ ⟨hd, hw⟩
          dsimp only at hd hw ⊢
          have hsucc : worstD b c p (d + 1) = if 0 < manyD b yes3 yes2 c p d then max w (manyD b yes3 yes2 c p d) else w := by
            rw [hw, worstD, List.range_succ, List.foldl_append]
            rfl
          simp (config := { failIfUnchanged := false }) (disch := first | omega | (simp [wcs_len] <;> omega) | fail) only [go_sem, ↓reduceIte, reduceCtorEq, Nat.reduceEqDiff, Nat.reduceAdd, Nat.reduceMul, Nat.reduceSub, Nat.reduceLeDiff, Int.reduceEq, Int.reduceLT, Int.reduceLE, Int.reduceAdd, Int.reduceSub, Int.reduceMul, Int.reduceNeg, Int.reduceToNat]
          refine wcond_dec (fun h3 => ?_) (fun h3 => ?_)
          · simp (config := { failIfUnchanged := false }) (disch := first | omega | (simp [wcs_len] <;> omega) | fail) only [go_sem, ↓reduceIte, reduceCtorEq, Nat.reduceEqDiff, Nat.reduceAdd, Nat.reduceMul, Nat.reduceSub, Nat.reduceLeDiff, Int.reduceEq, Int.reduceLT, Int.reduceLE, Int.reduceAdd, Int.reduceSub, Int.reduceMul, Int.reduceNeg, Int.reduceToNat]
            refine wcall (c74 b 100 101 [] [] c p d) ?_
            simp (config := { failIfUnchanged := false }) (disch := first | omega | (simp [wcs_len] <;> omega) | fail) only [go_sem, ↓reduceIte, reduceCtorEq, Nat.reduceEqDiff, Nat.reduceAdd, Nat.reduceMul, Nat.reduceSub, Nat.reduceLeDiff, Int.reduceEq, Int.reduceLT, Int.reduceLE, Int.reduceAdd, Int.reduceSub, Int.reduceMul, Int.reduceNeg, Int.reduceToNat]
            refine wcall (c65 b hv 108 101 _ [] (onlyF yes3 c p d) yes2 (fun c' p' d' _ _ _ => c108 100 [] yes3 c p d c' p' d' (c100 c' p' d')) (fun p n _ _ => c101 p n)) ?_
            simp (config := { failIfUnchanged := false }) (disch := first | omega | (simp [wcs_len] <;> omega) | fail) only [go_sem, ↓reduceIte, reduceCtorEq, Nat.reduceEqDiff, Nat.reduceAdd, Nat.reduceMul, Nat.reduceSub, Nat.reduceLeDiff, Int.reduceEq, Int.reduceLT, Int.reduceLE, Int.reduceAdd, Int.reduceSub, Int.reduceMul, Int.reduceNeg, Int.reduceToNat]
            refine WGd_bool (fun h4 => ?_) (fun h4 => ?_)
            · simp (config := { failIfUnchanged := false }) (disch := first | omega | (simp [wcs_len] <;> omega) | fail) only [go_sem, ↓reduceIte, reduceCtorEq, Nat.reduceEqDiff, Nat.reduceAdd, Nat.reduceMul, Nat.reduceSub, Nat.reduceLeDiff, Int.reduceEq, Int.reduceLT, Int.reduceLE, Int.reduceAdd, Int.reduceSub, Int.reduceMul, Int.reduceNeg, Int.reduceToNat, h4]
              have h4' : 0 < manyD b yes3 yes2 c p d := by simpa [manyD] using h4
              refine wyield (hT _ _ _ _ _ rfl ?_)
              simp (config := { failIfUnchanged := false }) (disch := first | omega | (simp [wcs_len] <;> omega) | fail) only [go_sem, ↓reduceIte, reduceCtorEq, Nat.reduceEqDiff, Nat.reduceAdd, Nat.reduceMul, Nat.reduceSub, Nat.reduceLeDiff, Int.reduceEq, Int.reduceLT, Int.reduceLE, Int.reduceAdd, Int.reduceSub, Int.reduceMul, Int.reduceNeg, Int.reduceToNat, h4]
              refine ⟨(d + 1, max w (manyD b yes3 yes2 c p d)), ⟨by dsimp only; omega, by rw [hsucc, if_pos h4']⟩, by dsimp only; omega, ?_⟩
              simp (config := { failIfUnchanged := false }) (disch := first | omega | (simp [wcs_len] <;> omega) | fail) only [go_sem, ↓reduceIte, reduceCtorEq, Nat.reduceEqDiff, Nat.reduceAdd, Nat.reduceMul, Nat.reduceSub, Nat.reduceLeDiff, Int.reduceEq, Int.reduceLT, Int.reduceLE, Int.reduceAdd, Int.reduceSub, Int.reduceMul, Int.reduceNeg, Int.reduceToNat]
              simp [manyD]
            · simp (config := { failIfUnchanged := false }) (disch := first | omega | (simp [wcs_len] <;> omega) | fail) only [go_sem, ↓reduceIte, reduceCtorEq, Nat.reduceEqDiff, Nat.reduceAdd, Nat.reduceMul, Nat.reduceSub, Nat.reduceLeDiff, Int.reduceEq, Int.reduceLT, Int.reduceLE, Int.reduceAdd, Int.reduceSub, Int.reduceMul, Int.reduceNeg, Int.reduceToNat, h4]
              have h4' : ¬ 0 < manyD b yes3 yes2 c p d := by simpa [manyD] using h4
              refine ⟨(d + 1, w), ⟨by dsimp only; omega, by rw [hsucc, if_neg h4']⟩, by dsimp only; omega, ?_⟩
              simp (config := { failIfUnchanged := false }) (disch := first | omega | (simp [wcs_len] <;> omega) | fail) only [go_sem, ↓reduceIte, reduceCtorEq, Nat.reduceEqDiff, Nat.reduceAdd, Nat.reduceMul, Nat.reduceSub, Nat.reduceLeDiff, Int.reduceEq, Int.reduceLT, Int.reduceLE, Int.reduceAdd, Int.reduceSub, Int.reduceMul, Int.reduceNeg, Int.reduceToNat]
              simp
          · simp (config := { failIfUnchanged := false }) (disch := first | omega | (simp [wcs_len] <;> omega) | fail) only [go_sem, ↓reduceIte, reduceCtorEq, Nat.reduceEqDiff, Nat.reduceAdd, Nat.reduceMul, Nat.reduceSub, Nat.reduceLeDiff, Int.reduceEq, Int.reduceLT, Int.reduceLE, Int.reduceAdd, Int.reduceSub, Int.reduceMul, Int.reduceNeg, Int.reduceToNat]
            have ed : d = b.base.toNat := by omega
            subst ed
            have hst := askRow_succ b c s0 p
            rw [← hss] at hst
            refine WGd_bool (fun h4 => ?_) (fun h4 => ?_)
            · simp (config := { failIfUnchanged := false }) (disch := first | omega | (simp [wcs_len] <;> omega) | fail) only [go_sem, ↓reduceIte, reduceCtorEq, Nat.reduceEqDiff, Nat.reduceAdd, Nat.reduceMul, Nat.reduceSub, Nat.reduceLeDiff, Int.reduceEq, Int.reduceLT, Int.reduceLE, Int.reduceAdd, Int.reduceSub, Int.reduceMul, Int.reduceNeg, Int.reduceToNat, h4]
              refine wcond_dec (fun h5 => ?_) (fun h5 => ?_)
              · simp (config := { failIfUnchanged := false }) (disch := first | omega | (simp [wcs_len] <;> omega) | fail) only [go_sem, ↓reduceIte, reduceCtorEq, Nat.reduceEqDiff, Nat.reduceAdd, Nat.reduceMul, Nat.reduceSub, Nat.reduceLeDiff, Int.reduceEq, Int.reduceLT, Int.reduceLE, Int.reduceAdd, Int.reduceSub, Int.reduceMul, Int.reduceNeg, Int.reduceToNat]
                refine ⟨(p + 1, askRow b c s0 (p + 1)), ⟨by dsimp only; omega, rfl⟩, by dsimp only; omega, ?_⟩
                rw [hst, askStep, if_pos (by rw [← hw]; exact .inr h5)]
                simp (config := { failIfUnchanged := false }) (disch := first | omega | (simp [wcs_len] <;> omega) | fail) only [go_sem, ↓reduceIte, reduceCtorEq, Nat.reduceEqDiff, Nat.reduceAdd, Nat.reduceMul, Nat.reduceSub, Nat.reduceLeDiff, Int.reduceEq, Int.reduceLT, Int.reduceLE, Int.reduceAdd, Int.reduceSub, Int.reduceMul, Int.reduceNeg, Int.reduceToNat]
                simp [hw]
              · simp (config := { failIfUnchanged := false }) (disch := first | omega | (simp [wcs_len] <;> omega) | fail) only [go_sem, ↓reduceIte, reduceCtorEq, Nat.reduceEqDiff, Nat.reduceAdd, Nat.reduceMul, Nat.reduceSub, Nat.reduceLeDiff, Int.reduceEq, Int.reduceLT, Int.reduceLE, Int.reduceAdd, Int.reduceSub, Int.reduceMul, Int.reduceNeg, Int.reduceToNat]
                simp only [Bool.not_eq_false', decide_eq_false_iff_not] at h4
                refine ⟨(p + 1, askRow b c s0 (p + 1)), ⟨by dsimp only; omega, rfl⟩, by dsimp only; omega, ?_⟩
                rw [hst, askStep, if_neg (by rw [← hw]; omega)]
                simp (config := { failIfUnchanged := false }) (disch := first | omega | (simp [wcs_len] <;> omega) | fail) only [go_sem, ↓reduceIte, reduceCtorEq, Nat.reduceEqDiff, Nat.reduceAdd, Nat.reduceMul, Nat.reduceSub, Nat.reduceLeDiff, Int.reduceEq, Int.reduceLT, Int.reduceLE, Int.reduceAdd, Int.reduceSub, Int.reduceMul, Int.reduceNeg, Int.reduceToNat]
                simp
            · simp (config := { failIfUnchanged := false }) (disch := first | omega | (simp [wcs_len] <;> omega) | fail) only [go_sem, ↓reduceIte, reduceCtorEq, Nat.reduceEqDiff, Nat.reduceAdd, Nat.reduceMul, Nat.reduceSub, Nat.reduceLeDiff, Int.reduceEq, Int.reduceLT, Int.reduceLE, Int.reduceAdd, Int.reduceSub, Int.reduceMul, Int.reduceNeg, Int.reduceToNat, h4]
              refine ⟨(p + 1, askRow b c s0 (p + 1)), ⟨by dsimp only; omega, rfl⟩, by dsimp only; omega, ?_⟩
              rw [hst, askStep, if_pos (by rw [← hw]; simp at h4; exact .inl (by omega))]
              simp (config := { failIfUnchanged := false }) (disch := first | omega | (simp [wcs_len] <;> omega) | fail) only [go_sem, ↓reduceIte, reduceCtorEq, Nat.reduceEqDiff, Nat.reduceAdd, Nat.reduceMul, Nat.reduceSub, Nat.reduceLeDiff, Int.reduceEq, Int.reduceLT, Int.reduceLE, Int.reduceAdd, Int.reduceSub, Int.reduceMul, Int.reduceNeg, Int.reduceToNat]
              simp [hw]
        · simp (config := { failIfUnchanged := false }) (disch := first | omega | (simp [wcs_len] <;> omega) | fail) only [go_sem, ↓reduceIte, reduceCtorEq, Nat.reduceEqDiff, Nat.reduceAdd, Nat.reduceMul, Nat.reduceSub, Nat.reduceLeDiff, Int.reduceEq, Int.reduceLT, Int.reduceLE, Int.reduceAdd, Int.reduceSub, Int.reduceMul, Int.reduceNeg, Int.reduceToNat]
          have e : p = PL := by omega
          refine ⟨(c + 1, askD b (c + 1)), ⟨by dsimp only; omega, rfl⟩, by dsimp only; omega, ?_⟩
          rw [askD_succ, ← hs0, hPn, ← e, ← hss]
          simp (config := { failIfUnchanged := false }) (disch := first | omega | (simp [wcs_len] <;> omega) | fail) only [go_sem, ↓reduceIte, reduceCtorEq, Nat.reduceEqDiff, Nat.reduceAdd, Nat.reduceMul, Nat.reduceSub, Nat.reduceLeDiff, Int.reduceEq, Int.reduceLT, Int.reduceLE, Int.reduceAdd, Int.reduceSub, Int.reduceMul, Int.reduceNeg, Int.reduceToNat]
          simp
      · simp (config := { failIfUnchanged := false }) (disch := first | omega | (simp [wcs_len] <;> omega) | fail) only [go_sem, ↓reduceIte, reduceCtorEq, Nat.reduceEqDiff, Nat.reduceAdd, Nat.reduceMul, Nat.reduceSub, Nat.reduceLeDiff, Int.reduceEq, Int.reduceLT, Int.reduceLE, Int.reduceAdd, Int.reduceSub, Int.reduceMul, Int.reduceNeg, Int.reduceToNat]
        have e : c = b.cords.length + 1 := by omega
        rw [hs0, e]

end Go.Proofs.Ytkkiipjfbebipaa

/- Tie. -/
set_option linter.unusedSimpArgs false
set_option linter.unusedVariables false
set_option linter.unnecessarySimpa false
namespace Go.Proofs.Ytkkiipjfbebipaa
open Go Go.V

def mostT (b : Bk) (k : Nat) : Int := (List.range k).foldl (fun m _ => w64 (m * min 10 (max 1 b.base))) 1

theorem mostT_succ (b : Bk) (k : Nat) : mostT b (k + 1) = w64 (mostT b k * min 10 (max 1 b.base)) := by
  unfold mostT
  rw [List.range_succ, List.foldl_append]
  rfl

theorem mostT_eq {b : Bk} (hb : 2 ≤ b.base ∧ b.base ≤ 10) : ∀ k, k ≤ 4 → mostT b k = ((b.base.toNat ^ k : Nat) : Int) ∧ b.base.toNat ^ k ≤ 10 ^ k
  | 0, _ => by simp [mostT]
  | k + 1, h => by
    obtain ⟨ih1, ih2⟩ := mostT_eq hb k (by omega)
    have hk : (10 : Nat) ^ k ≤ 1000 := by
      have : k = 0 ∨ k = 1 ∨ k = 2 ∨ k = 3 := by omega
      rcases this with rfl | rfl | rfl | rfl <;> decide
    have e : min 10 (max 1 b.base) = ((b.base.toNat : Nat) : Int) := by omega
    have hB : b.base.toNat ≤ 10 := by omega
    have h3 : b.base.toNat ^ k * b.base.toNat ≤ 10 ^ k * 10 := Nat.mul_le_mul ih2 hB
    refine ⟨?_, by rw [Nat.pow_succ, Nat.pow_succ]; exact h3⟩
    rw [mostT_succ, ih1, e, ← Int.natCast_mul, ← Nat.pow_succ, w64_id]
    rw [← Nat.pow_succ] at h3
    omega

theorem c42t (b : Bk) (hs : Small b) (n : Int) : Ctr Try.prog 42 [KB b, .int n]
    (if checkB b then
      if within n 0 (w64 (mostT b (min 4 (max 0 b.places)).toNat - 1)) then .tup [.sl 1 ((tieN b.base.toNat b.places.toNat n.toNat).map .int) .sh, .int 0] else .tup [.sl 1 [] .sh, .int 1]
    else .tup [.sl 1 [] .sh, .int 110]) := by
  refine ctr_of_wp hmix Try.func42 m42 rfl ?_
  unfold v42
  simp (config := { failIfUnchanged := false }) (disch := first | omega | (simp [wcs_len] <;> omega) | fail) only [go_sem, ↓reduceIte, reduceCtorEq, Nat.reduceEqDiff, Nat.reduceAdd, Nat.reduceMul, Nat.reduceSub, Nat.reduceLeDiff, Int.reduceEq, Int.reduceLT, Int.reduceLE, Int.reduceAdd, Int.reduceSub, Int.reduceMul, Int.reduceNeg, Int.reduceToNat]
  obtain ⟨K, hK⟩ : ∃ K : Nat, min 4 (max 0 b.places) = K := ⟨(min 4 (max 0 b.places)).toNat, by omega⟩
  rw [hK, Int.toNat_natCast]
  refine wp_loop' (Nat × Int) (fun x => ⟨[(2, .ptr 2 0), (3, .ptr 3 0), (6, .int x.2), (13, .int K), (14, .int x.1)],
    [(3, ⟨[.int n], false⟩), (2, ⟨[.int b.base, .int b.places, .sl 1 (b.cords.map SS) .sh, SS b.top], false⟩)], [], none⟩) (fun x => x.1 ≤ K ∧ x.2 = mostT b x.1) (fun x => K - x.1) (0, mostT b 0) ⟨by simp, rfl⟩ (by simp (config := { failIfUnchanged := false }) (disch := first | omega | (simp [wcs_len] <;> omega) | fail) only [go_sem, ↓reduceIte, reduceCtorEq, Nat.reduceEqDiff, Nat.reduceAdd, Nat.reduceMul, Nat.reduceSub, Nat.reduceLeDiff, Int.reduceEq, Int.reduceLT, Int.reduceLE, Int.reduceAdd, Int.reduceSub, Int.reduceMul, Int.reduceNeg, Int.reduceToNat]; simp [mostT]) ?_
  rintro ⟨i, m⟩ ⟨hi, hm⟩
  dsimp only at hi hm ⊢
  simp (config := { failIfUnchanged := false }) (disch := first | omega | (simp [wcs_len] <;> omega) | fail) only [go_sem, ↓reduceIte, reduceCtorEq, Nat.reduceEqDiff, Nat.reduceAdd, Nat.reduceMul, Nat.reduceSub, Nat.reduceLeDiff, Int.reduceEq, Int.reduceLT, Int.reduceLE, Int.reduceAdd, Int.reduceSub, Int.reduceMul, Int.reduceNeg, Int.reduceToNat]
  refine wcond_dec (fun h => ?_) (fun h => ?_)
  · simp (config := { failIfUnchanged := false }) (disch := first | omega | (simp [wcs_len] <;> omega) | fail) only [go_sem, ↓reduceIte, reduceCtorEq, Nat.reduceEqDiff, Nat.reduceAdd, Nat.reduceMul, Nat.reduceSub, Nat.reduceLeDiff, Int.reduceEq, Int.reduceLT, Int.reduceLE, Int.reduceAdd, Int.reduceSub, Int.reduceMul, Int.reduceNeg, Int.reduceToNat]
    refine ⟨(i + 1, mostT b (i + 1)), ⟨by dsimp only; omega, rfl⟩, by dsimp only; omega, ?_⟩
    rw [mostT_succ, ← hm]
    simp (config := { failIfUnchanged := false }) (disch := first | omega | (simp [wcs_len] <;> omega) | fail) only [go_sem, ↓reduceIte, reduceCtorEq, Nat.reduceEqDiff, Nat.reduceAdd, Nat.reduceMul, Nat.reduceSub, Nat.reduceLeDiff, Int.reduceEq, Int.reduceLT, Int.reduceLE, Int.reduceAdd, Int.reduceSub, Int.reduceMul, Int.reduceNeg, Int.reduceToNat]
    simp
  · have ei : i = K := by omega
    subst ei
    rw [hm]
    simp (config := { failIfUnchanged := false }) (disch := first | omega | (simp [wcs_len] <;> omega) | fail) only [go_sem, ↓reduceIte, reduceCtorEq, Nat.reduceEqDiff, Nat.reduceAdd, Nat.reduceMul, Nat.reduceSub, Nat.reduceLeDiff, Int.reduceEq, Int.reduceLT, Int.reduceLE, Int.reduceAdd, Int.reduceSub, Int.reduceMul, Int.reduceNeg, Int.reduceToNat]
    refine wcall (c86 _ _ _) ?_
    simp (config := { failIfUnchanged := false }) (disch := first | omega | (simp [wcs_len] <;> omega) | fail) only [go_sem, ↓reduceIte, reduceCtorEq, Nat.reduceEqDiff, Nat.reduceAdd, Nat.reduceMul, Nat.reduceSub, Nat.reduceLeDiff, Int.reduceEq, Int.reduceLT, Int.reduceLE, Int.reduceAdd, Int.reduceSub, Int.reduceMul, Int.reduceNeg, Int.reduceToNat]
    refine wcall (c85 b hs _) ?_
    cases hc : checkB b with
    | false => simp (config := { failIfUnchanged := false }) (disch := first | omega | (simp [wcs_len] <;> omega) | fail) only [go_sem, ↓reduceIte, reduceCtorEq, Nat.reduceEqDiff, Nat.reduceAdd, Nat.reduceMul, Nat.reduceSub, Nat.reduceLeDiff, Int.reduceEq, Int.reduceLT, Int.reduceLE, Int.reduceAdd, Int.reduceSub, Int.reduceMul, Int.reduceNeg, Int.reduceToNat]
    | true =>
      cases hw : within n 0 (w64 (mostT b i - 1)) with
      | false => simp (config := { failIfUnchanged := false }) (disch := first | omega | (simp [wcs_len] <;> omega) | fail) only [go_sem, ↓reduceIte, reduceCtorEq, Nat.reduceEqDiff, Nat.reduceAdd, Nat.reduceMul, Nat.reduceSub, Nat.reduceLeDiff, Int.reduceEq, Int.reduceLT, Int.reduceLE, Int.reduceAdd, Int.reduceSub, Int.reduceMul, Int.reduceNeg, Int.reduceToNat]
      | true =>
        have hv := val_of_check hc
        obtain ⟨hb1, hb2⟩ := hv.hb
        obtain ⟨hp1, hp2⟩ := hv.hp
        obtain ⟨P, hP⟩ : ∃ P, b.places.toNat = P := ⟨_, rfl⟩
        have hPi : b.places = (P : Int) := by omega
        have hiP : i = P := by omega
        subst hiP
        obtain ⟨hm1, hm2⟩ := mostT_eq hv.hb i (by omega)
        have h10 : (10 : Nat) ^ i ≤ 10000 := by
          have : i = 1 ∨ i = 2 ∨ i = 3 ∨ i = 4 := by omega
          rcases this with rfl | rfl | rfl | rfl <;> decide
        have hw2 : 0 ≤ n ∧ n ≤ w64 (mostT b i - 1) := by simpa [within] using hw
        rw [hm1, w64_id (by omega)] at hw2
        obtain ⟨n0, rfl⟩ : ∃ m : Nat, n = m := ⟨n.toNat, by omega⟩
        have em : ∀ n : Nat, Int.tmod (n : Int) b.base = ((n % b.base.toNat : Nat) : Int) := fun n => by
          obtain ⟨B, hB⟩ : ∃ B : Nat, b.base = B := ⟨b.base.toNat, by omega⟩
          rw [hB]; rfl
        have eq : ∀ n : Nat, Int.tdiv (n : Int) b.base = ((n / b.base.toNat : Nat) : Int) := fun n => by
          obtain ⟨B, hB⟩ : ∃ B : Nat, b.base = B := ⟨b.base.toNat, by omega⟩
          rw [hB]; rfl
        rw [hP]
        simp (config := { failIfUnchanged := false }) (disch := first | omega | (simp [wcs_len] <;> omega) | fail) only [go_sem, ↓reduceIte, reduceCtorEq, Nat.reduceEqDiff, Nat.reduceAdd, Nat.reduceMul, Nat.reduceSub, Nat.reduceLeDiff, Int.reduceEq, Int.reduceLT, Int.reduceLE, Int.reduceAdd, Int.reduceSub, Int.reduceMul, Int.reduceNeg, Int.reduceToNat, hPi]
        refine wcall_in hmix Try.func87 m87 rfl ?_
        unfold v87
        simp (config := { failIfUnchanged := false }) (disch := first | omega | (simp [wcs_len] <;> omega) | fail) only [go_sem, ↓reduceIte, reduceCtorEq, Nat.reduceEqDiff, Nat.reduceAdd, Nat.reduceMul, Nat.reduceSub, Nat.reduceLeDiff, Int.reduceEq, Int.reduceLT, Int.reduceLE, Int.reduceAdd, Int.reduceSub, Int.reduceMul, Int.reduceNeg, Int.reduceToNat]
        refine wp_range' ?_
        simp (config := { failIfUnchanged := false }) (disch := first | omega | (simp [wcs_len] <;> omega) | fail) only [go_sem, ↓reduceIte, reduceCtorEq, Nat.reduceEqDiff, Nat.reduceAdd, Nat.reduceMul, Nat.reduceSub, Nat.reduceLeDiff, Int.reduceEq, Int.reduceLT, Int.reduceLE, Int.reduceAdd, Int.reduceSub, Int.reduceMul, Int.reduceNeg, Int.reduceToNat]
        refine wrangew fun l T hT => ?_
        refine csem_of_wp hmix Try.func109 m109 rfl rfl ?_
        unfold v109
        simp (config := { failIfUnchanged := false }) (disch := first | omega | (simp [wcs_len] <;> omega) | fail) only [go_sem, ↓reduceIte, reduceCtorEq, Nat.reduceEqDiff, Nat.reduceAdd, Nat.reduceMul, Nat.reduceSub, Nat.reduceLeDiff, Int.reduceEq, Int.reduceLT, Int.reduceLE, Int.reduceAdd, Int.reduceSub, Int.reduceMul, Int.reduceNeg, Int.reduceToNat]
        refine wp_loopX (Nat × Nat × List Int) (fun x => ⟨[(0, .yld l), (1, .ptr 3001 0), (3, .int ((x.1 : Int) - 1))],
          [(3001, ⟨[.bsl 34 0 1 i false], false⟩), (8, ⟨[.bsl 34 0 1 i false], false⟩), (34, ⟨(List.replicate x.1 (0 : Int) ++ x.2.2).map .int, false⟩), (3, ⟨[.int x.2.1], false⟩), (2, ⟨[.int b.base, .int i, .sl 1 (b.cords.map SS) .sh, SS b.top], false⟩)], [], none⟩)
          (fun x => x.1 ≤ i ∧ x.2.1 < 4294967296 ∧ x.2.2.length = i - x.1 ∧ tieN b.base.toNat x.1 x.2.1 ++ x.2.2 = tieN b.base.toNat i n0) (fun x => x.1) (i, n0, []) ⟨by simp, by dsimp only; omega, by simp, by simp⟩ (by simp (config := { failIfUnchanged := false }) (disch := first | omega | (simp [wcs_len] <;> omega) | fail) only [go_sem, ↓reduceIte, reduceCtorEq, Nat.reduceEqDiff, Nat.reduceAdd, Nat.reduceMul, Nat.reduceSub, Nat.reduceLeDiff, Int.reduceEq, Int.reduceLT, Int.reduceLE, Int.reduceAdd, Int.reduceSub, Int.reduceMul, Int.reduceNeg, Int.reduceToNat]) (fun x => by simp (config := { failIfUnchanged := false }) (disch := first | omega | (simp [wcs_len] <;> omega) | fail) only [go_sem, ↓reduceIte, reduceCtorEq, Nat.reduceEqDiff, Nat.reduceAdd, Nat.reduceMul, Nat.reduceSub, Nat.reduceLeDiff, Int.reduceEq, Int.reduceLT, Int.reduceLE, Int.reduceAdd, Int.reduceSub, Int.reduceMul, Int.reduceNeg, Int.reduceToNat]) ?_
        rintro ⟨q, m, suf⟩ ⟨hq, hm, hsl, hsuf⟩
        dsimp only at hq hm hsl hsuf ⊢
        simp (config := { failIfUnchanged := false }) (disch := first | omega | (simp [wcs_len] <;> omega) | fail) only [go_sem, ↓reduceIte, reduceCtorEq, Nat.reduceEqDiff, Nat.reduceAdd, Nat.reduceMul, Nat.reduceSub, Nat.reduceLeDiff, Int.reduceEq, Int.reduceLT, Int.reduceLE, Int.reduceAdd, Int.reduceSub, Int.reduceMul, Int.reduceNeg, Int.reduceToNat]
        refine wcond_dec (fun h => ?_) (fun h => ?_)
        · obtain ⟨k, rfl⟩ : ∃ k, q = k + 1 := ⟨q - 1, by omega⟩
          rw [show ((k + 1 : Nat) : Int) - 1 = (k : Int) by omega]
          have hlen : (List.replicate (k + 1) (0 : Int) ++ suf).length = i := by simp; omega
          have hset : (List.replicate (k + 1) (0 : Int) ++ suf).set k ((m % b.base.toNat : Nat) : Int) = List.replicate k 0 ++ ((m % b.base.toNat : Nat) : Int) :: suf := by
            rw [List.replicate_succ', List.append_assoc, List.set_append_right _ _ (by simp)]
            simp
          have hdiv : m / b.base.toNat ≤ m := Nat.div_le_self _ _
          obtain ⟨m2, hm2⟩ : ∃ m2, m / b.base.toNat = m2 := ⟨_, rfl⟩
          rw [hm2] at hdiv
          generalize hxs : List.replicate (k + 1) (0 : Int) ++ suf = xs at hlen hset
          simp (config := { failIfUnchanged := false }) (disch := first | omega | (simp [wcs_len] <;> omega) | fail) only [go_sem, ↓reduceIte, reduceCtorEq, Nat.reduceEqDiff, Nat.reduceAdd, Nat.reduceMul, Nat.reduceSub, Nat.reduceLeDiff, Int.reduceEq, Int.reduceLT, Int.reduceLE, Int.reduceAdd, Int.reduceSub, Int.reduceMul, Int.reduceNeg, Int.reduceToNat]
          refine wyield (hT _ _ _ _ _ rfl ?_)
          simp (config := { failIfUnchanged := false }) (disch := first | omega | (simp [wcs_len] <;> omega) | fail) only [go_sem, ↓reduceIte, reduceCtorEq, Nat.reduceEqDiff, Nat.reduceAdd, Nat.reduceMul, Nat.reduceSub, Nat.reduceLeDiff, Int.reduceEq, Int.reduceLT, Int.reduceLE, Int.reduceAdd, Int.reduceSub, Int.reduceMul, Int.reduceNeg, Int.reduceToNat, em, eq, hm2]
          refine ⟨(k, m2, ((m % b.base.toNat : Nat) : Int) :: suf), ⟨by dsimp only; omega, by dsimp only; omega, by simp only [List.length_cons]; omega, ?_⟩, by dsimp only; omega, ?_⟩
          · rw [← hsuf]
            simp [tieN, hm2]
          · simp (config := { failIfUnchanged := false }) (disch := first | omega | (simp [wcs_len] <;> omega) | fail) only [go_sem, ↓reduceIte, reduceCtorEq, Nat.reduceEqDiff, Nat.reduceAdd, Nat.reduceMul, Nat.reduceSub, Nat.reduceLeDiff, Int.reduceEq, Int.reduceLT, Int.reduceLE, Int.reduceAdd, Int.reduceSub, Int.reduceMul, Int.reduceNeg, Int.reduceToNat, hset]
        · simp (config := { failIfUnchanged := false }) (disch := first | omega | (simp [wcs_len] <;> omega) | fail) only [go_sem, ↓reduceIte, reduceCtorEq, Nat.reduceEqDiff, Nat.reduceAdd, Nat.reduceMul, Nat.reduceSub, Nat.reduceLeDiff, Int.reduceEq, Int.reduceLT, Int.reduceLE, Int.reduceAdd, Int.reduceSub, Int.reduceMul, Int.reduceNeg, Int.reduceToNat]
          have e : q = 0 := by omega
          subst e
          simp only [List.replicate_zero, List.nil_append] at hsuf ⊢
          have hs2 : suf.length = i := by omega
          have e2 : suf = tieN b.base.toNat i n0 := by
            rw [← hsuf]
            rfl
          rw [if_pos (by omega), chunks_ints hs2.symm, e2]
          exact ⟨rfl, rfl⟩

end Go.Proofs.Ytkkiipjfbebipaa

/- Cord. -/
set_option linter.unusedSimpArgs false
set_option linter.unusedVariables false
set_option linter.unnecessarySimpa false
namespace Go.Proofs.Ytkkiipjfbebipaa
open Go Go.V

def endsL (base : Int) (l : List Sp) : Sp := l.foldl (fun o s => ⟨numL base [o.lo, s.lo], numL base [o.hi, s.hi]⟩) ⟨0, 0⟩

theorem c94 (base : Int) (l : List Sp) (hl : l.length < 4294967296) : Ctr Try.prog 94 [.int base, SS l] (SP (endsL base l)) := by
  refine ctr_of_wp hmix Try.func94 m94 rfl ?_
  unfold v94
  simp (config := { failIfUnchanged := false }) (disch := first | omega | (simp [wcs_len] <;> omega) | fail) only [go_sem, ↓reduceIte, reduceCtorEq, Nat.reduceEqDiff, Nat.reduceAdd, Nat.reduceMul, Nat.reduceSub, Nat.reduceLeDiff, Int.reduceEq, Int.reduceLT, Int.reduceLE, Int.reduceAdd, Int.reduceSub, Int.reduceMul, Int.reduceNeg, Int.reduceToNat]
  refine wp_loop' (Nat × Sp) (fun x => ⟨[(0, .int base), (4, .ptr 4 0), (5, .ptr 5 0), (8, SS l), (9, .int l.length), (10, .int x.1)], [(5, ⟨[.int x.2.lo, .int x.2.hi], false⟩), (4, ⟨[.int 0, .int 0], false⟩)], [], none⟩) (fun x => x.1 ≤ l.length ∧ x.2 = endsL base (l.take x.1)) (fun x => l.length - x.1) (0, ⟨0, 0⟩) (by simp [endsL]) (by simp (config := { failIfUnchanged := false }) (disch := first | omega | (simp [wcs_len] <;> omega) | fail) only [go_sem, ↓reduceIte, reduceCtorEq, Nat.reduceEqDiff, Nat.reduceAdd, Nat.reduceMul, Nat.reduceSub, Nat.reduceLeDiff, Int.reduceEq, Int.reduceLT, Int.reduceLE, Int.reduceAdd, Int.reduceSub, Int.reduceMul, Int.reduceNeg, Int.reduceToNat]; simp) ?_
  rintro ⟨i, o⟩ ⟨hi, ho⟩
  dsimp only at hi ho ⊢
  simp (config := { failIfUnchanged := false }) (disch := first | omega | (simp [wcs_len] <;> omega) | fail) only [go_sem, ↓reduceIte, reduceCtorEq, Nat.reduceEqDiff, Nat.reduceAdd, Nat.reduceMul, Nat.reduceSub, Nat.reduceLeDiff, Int.reduceEq, Int.reduceLT, Int.reduceLE, Int.reduceAdd, Int.reduceSub, Int.reduceMul, Int.reduceNeg, Int.reduceToNat]
  refine wcond_dec (fun h => ?_) (fun h => ?_)
  · have hlt : i < l.length := by omega
    obtain ⟨s, hsp⟩ : ∃ s, l[i]?.getD default = s := ⟨_, rfl⟩
    simp (config := { failIfUnchanged := false }) (disch := first | omega | (simp [wcs_len] <;> omega) | fail) only [go_sem, ↓reduceIte, reduceCtorEq, Nat.reduceEqDiff, Nat.reduceAdd, Nat.reduceMul, Nat.reduceSub, Nat.reduceLeDiff, Int.reduceEq, Int.reduceLT, Int.reduceLE, Int.reduceAdd, Int.reduceSub, Int.reduceMul, Int.reduceNeg, Int.reduceToNat, hsp]
    refine wcall (c81 base [o.lo, s.lo] (by simp)) ?_
    simp (config := { failIfUnchanged := false }) (disch := first | omega | (simp [wcs_len] <;> omega) | fail) only [go_sem, ↓reduceIte, reduceCtorEq, Nat.reduceEqDiff, Nat.reduceAdd, Nat.reduceMul, Nat.reduceSub, Nat.reduceLeDiff, Int.reduceEq, Int.reduceLT, Int.reduceLE, Int.reduceAdd, Int.reduceSub, Int.reduceMul, Int.reduceNeg, Int.reduceToNat]
    refine wcall (c81 base [o.hi, s.hi] (by simp)) ?_
    simp (config := { failIfUnchanged := false }) (disch := first | omega | (simp [wcs_len] <;> omega) | fail) only [go_sem, ↓reduceIte, reduceCtorEq, Nat.reduceEqDiff, Nat.reduceAdd, Nat.reduceMul, Nat.reduceSub, Nat.reduceLeDiff, Int.reduceEq, Int.reduceLT, Int.reduceLE, Int.reduceAdd, Int.reduceSub, Int.reduceMul, Int.reduceNeg, Int.reduceToNat]
    have e : endsL base (l.take (i + 1)) = ⟨numL base [o.lo, s.lo], numL base [o.hi, s.hi]⟩ := by
      rw [List.take_add_one, List.getElem?_eq_getElem hlt, endsL, List.foldl_append]
      have : l[i] = s := by rw [← hsp]; simp [hlt]
      simp only [Option.toList_some, List.foldl_cons, List.foldl_nil, this]
      rw [show List.foldl _ _ (l.take i) = endsL base (l.take i) from rfl, ← ho]
    refine ⟨(i + 1, ⟨numL base [o.lo, s.lo], numL base [o.hi, s.hi]⟩), ⟨by dsimp only; omega, e.symm⟩, by dsimp only; omega, ?_⟩
    simp (config := { failIfUnchanged := false }) (disch := first | omega | (simp [wcs_len] <;> omega) | fail) only [go_sem, ↓reduceIte, reduceCtorEq, Nat.reduceEqDiff, Nat.reduceAdd, Nat.reduceMul, Nat.reduceSub, Nat.reduceLeDiff, Int.reduceEq, Int.reduceLT, Int.reduceLE, Int.reduceAdd, Int.reduceSub, Int.reduceMul, Int.reduceNeg, Int.reduceToNat]
    simp
  · simp (config := { failIfUnchanged := false }) (disch := first | omega | (simp [wcs_len] <;> omega) | fail) only [go_sem, ↓reduceIte, reduceCtorEq, Nat.reduceEqDiff, Nat.reduceAdd, Nat.reduceMul, Nat.reduceSub, Nat.reduceLeDiff, Int.reduceEq, Int.reduceLT, Int.reduceLE, Int.reduceAdd, Int.reduceSub, Int.reduceMul, Int.reduceNeg, Int.reduceToNat]
    have e : i = l.length := by omega
    rw [ho, e, List.take_length]

theorem allC_small {b : Bk} (hs : Small b) : ∀ l ∈ allC b, l.length < 4294967296 := by
  intro l hl
  rcases List.mem_append.1 hl with h | h
  · exact hs.each l h
  · simp at h; subst h; exact hs.top

theorem c53 (b : Bk) (hs : Small b) (c : Int) : Ctr Try.prog 53 [KB b, .int c]
    (if checkB b then
      if within c 0 b.cords.length then .tup [SP (endsL b.base ((allC b)[c.toNat]?.getD default)), .int 0] else .tup [SP ⟨0, 0⟩, .int 1]
    else .tup [SP ⟨0, 0⟩, .int 110]) := by
  refine ctr_of_wp hmix Try.func53 m53 rfl ?_
  unfold v53
  simp (config := { failIfUnchanged := false }) (disch := first | omega | (simp [wcs_len] <;> omega) | fail) only [go_sem, ↓reduceIte, reduceCtorEq, Nat.reduceEqDiff, Nat.reduceAdd, Nat.reduceMul, Nat.reduceSub, Nat.reduceLeDiff, Int.reduceEq, Int.reduceLT, Int.reduceLE, Int.reduceAdd, Int.reduceSub, Int.reduceMul, Int.reduceNeg, Int.reduceToNat]
  refine wcall (c78 b c) ?_
  simp (config := { failIfUnchanged := false }) (disch := first | omega | (simp [wcs_len] <;> omega) | fail) only [go_sem, ↓reduceIte, reduceCtorEq, Nat.reduceEqDiff, Nat.reduceAdd, Nat.reduceMul, Nat.reduceSub, Nat.reduceLeDiff, Int.reduceEq, Int.reduceLT, Int.reduceLE, Int.reduceAdd, Int.reduceSub, Int.reduceMul, Int.reduceNeg, Int.reduceToNat]
  refine wcall (c85 b hs _) ?_
  cases hc : checkB b with
  | false => simp (config := { failIfUnchanged := false }) (disch := first | omega | (simp [wcs_len] <;> omega) | fail) only [go_sem, ↓reduceIte, reduceCtorEq, Nat.reduceEqDiff, Nat.reduceAdd, Nat.reduceMul, Nat.reduceSub, Nat.reduceLeDiff, Int.reduceEq, Int.reduceLT, Int.reduceLE, Int.reduceAdd, Int.reduceSub, Int.reduceMul, Int.reduceNeg, Int.reduceToNat]
  | true =>
    cases h1 : within c 0 b.cords.length with
    | false => simp (config := { failIfUnchanged := false }) (disch := first | omega | (simp [wcs_len] <;> omega) | fail) only [go_sem, ↓reduceIte, reduceCtorEq, Nat.reduceEqDiff, Nat.reduceAdd, Nat.reduceMul, Nat.reduceSub, Nat.reduceLeDiff, Int.reduceEq, Int.reduceLT, Int.reduceLE, Int.reduceAdd, Int.reduceSub, Int.reduceMul, Int.reduceNeg, Int.reduceToNat]
    | true =>
      have h1' : 0 ≤ c ∧ c ≤ b.cords.length := by simpa [within] using h1
      obtain ⟨m, rfl⟩ : ∃ m : Nat, c = m := ⟨c.toNat, by omega⟩
      have hal : (allC b).length = b.cords.length + 1 := by simp [allC]
      simp (config := { failIfUnchanged := false }) (disch := first | omega | (simp [wcs_len] <;> omega) | fail) only [go_sem, ↓reduceIte, reduceCtorEq, Nat.reduceEqDiff, Nat.reduceAdd, Nat.reduceMul, Nat.reduceSub, Nat.reduceLeDiff, Int.reduceEq, Int.reduceLT, Int.reduceLE, Int.reduceAdd, Int.reduceSub, Int.reduceMul, Int.reduceNeg, Int.reduceToNat]
      refine wcall (c66 b hs) ?_
      have hmem := allC_small hs _ (mem_getD (l := allC b) (i := m) (by omega))
      obtain ⟨l, hl⟩ : ∃ l, (allC b)[m]?.getD default = l := ⟨_, rfl⟩
      rw [hl] at hmem
      simp (config := { failIfUnchanged := false }) (disch := first | omega | (simp [wcs_len] <;> omega) | fail) only [go_sem, ↓reduceIte, reduceCtorEq, Nat.reduceEqDiff, Nat.reduceAdd, Nat.reduceMul, Nat.reduceSub, Nat.reduceLeDiff, Int.reduceEq, Int.reduceLT, Int.reduceLE, Int.reduceAdd, Int.reduceSub, Int.reduceMul, Int.reduceNeg, Int.reduceToNat, hl]
      refine wcall (c94 b.base l hmem) ?_
      simp (config := { failIfUnchanged := false }) (disch := first | omega | (simp [wcs_len] <;> omega) | fail) only [go_sem, ↓reduceIte, reduceCtorEq, Nat.reduceEqDiff, Nat.reduceAdd, Nat.reduceMul, Nat.reduceSub, Nat.reduceLeDiff, Int.reduceEq, Int.reduceLT, Int.reduceLE, Int.reduceAdd, Int.reduceSub, Int.reduceMul, Int.reduceNeg, Int.reduceToNat]

end Go.Proofs.Ytkkiipjfbebipaa

/- Blame. -/
set_option linter.unusedSimpArgs false
set_option linter.unusedVariables false
set_option linter.unnecessarySimpa false
namespace Go.Proofs.Ytkkiipjfbebipaa
open Go Go.V

/-- A cord could be retied with so few knots, tying or untying at a digit. -/
def blameAt (b : Bk) (c p d : Nat) : Bool := decide (0 < costL (((allC b)[c]?.getD default)[p]?.getD default) d) && decide ((solveL b (onlyF yes3 c p d) yes2).k = (solveL b yes3 yes2).k)
def blameC (b : Bk) (c : Nat) : Bool := (List.range ((allC b)[c]?.getD default).length).any fun p => (List.range b.base.toNat).any fun d => blameAt b c p d
def blameL (b : Bk) (k : Nat) : List Int := ((List.range k).filter (blameC b)).map (fun n : Nat => (n : Int))

theorem blameL_succ (b : Bk) (k : Nat) : blameL b (k + 1) = blameL b k ++ (if blameC b k then [(k : Int)] else []) := by
  unfold blameL
  rw [List.range_succ, List.filter_append, List.map_append]
  congr 1
  by_cases h : blameC b k <;> simp [h]

theorem blameL_len (b : Bk) (k : Nat) : (blameL b k).length ≤ k := by
  unfold blameL
  rw [List.length_map]
  exact Nat.le_trans (List.length_filter_le _ _) (by simp)

theorem c25 (b : Bk) (hs : Small b) : Ctr Try.prog 25 [KB b]
    (if checkB b then
      if (blameL b (b.cords.length + 1)).length = 0 then .tup [.sl 1 [] .sh, .int 3] else .tup [IS (blameL b (b.cords.length + 1)), .int 0]
    else .tup [.sl 1 [] .sh, .int 110]) := by
  refine ctr_of_wp hmix Try.func25 m25 rfl ?_
  unfold v25
  simp (config := { failIfUnchanged := false }) (disch := first | omega | (simp [wcs_len] <;> omega) | fail) only [go_sem, ↓reduceIte, reduceCtorEq, Nat.reduceEqDiff, Nat.reduceAdd, Nat.reduceMul, Nat.reduceSub, Nat.reduceLeDiff, Int.reduceEq, Int.reduceLT, Int.reduceLE, Int.reduceAdd, Int.reduceSub, Int.reduceMul, Int.reduceNeg, Int.reduceToNat]
  refine wcall (c23 b hs) ?_
  cases hc : checkB b with
  | false => simp (config := { failIfUnchanged := false }) (disch := first | omega | (simp [wcs_len] <;> omega) | fail) only [go_sem, ↓reduceIte, reduceCtorEq, Nat.reduceEqDiff, Nat.reduceAdd, Nat.reduceMul, Nat.reduceSub, Nat.reduceLeDiff, Int.reduceEq, Int.reduceLT, Int.reduceLE, Int.reduceAdd, Int.reduceSub, Int.reduceMul, Int.reduceNeg, Int.reduceToNat]
  | true =>
    have hv := val_of_check hc
    obtain ⟨hb1, hb2⟩ := hv.hb
    obtain ⟨hp1, hp2⟩ := hv.hp
    have hc4 := hv.hc
    obtain ⟨B, hB⟩ : ∃ B : Nat, b.base = B := ⟨b.base.toNat, by omega⟩
    have hBn : b.base.toNat = B := by omega
    obtain ⟨z, hz⟩ : ∃ z, (solveL b yes3 yes2).k = z := ⟨_, rfl⟩
    simp (config := { failIfUnchanged := false }) (disch := first | omega | (simp [wcs_len] <;> omega) | fail) only [go_sem, ↓reduceIte, reduceCtorEq, Nat.reduceEqDiff, Nat.reduceAdd, Nat.reduceMul, Nat.reduceSub, Nat.reduceLeDiff, Int.reduceEq, Int.reduceLT, Int.reduceLE, Int.reduceAdd, Int.reduceSub, Int.reduceMul, Int.reduceNeg, Int.reduceToNat, hz]
    refine wcall (c64 b) ?_
    simp (config := { failIfUnchanged := false }) (disch := first | omega | (simp [wcs_len] <;> omega) | fail) only [go_sem, ↓reduceIte, reduceCtorEq, Nat.reduceEqDiff, Nat.reduceAdd, Nat.reduceMul, Nat.reduceSub, Nat.reduceLeDiff, Int.reduceEq, Int.reduceLT, Int.reduceLE, Int.reduceAdd, Int.reduceSub, Int.reduceMul, Int.reduceNeg, Int.reduceToNat]
    refine wcall (c66 b hs) ?_
    have hal : (allC b).length = b.cords.length + 1 := by simp [allC]
    simp (config := { failIfUnchanged := false }) (disch := first | omega | (simp [wcs_len] <;> omega) | fail) only [go_sem, ↓reduceIte, reduceCtorEq, Nat.reduceEqDiff, Nat.reduceAdd, Nat.reduceMul, Nat.reduceSub, Nat.reduceLeDiff, Int.reduceEq, Int.reduceLT, Int.reduceLE, Int.reduceAdd, Int.reduceSub, Int.reduceMul, Int.reduceNeg, Int.reduceToNat]
    rw [hal]
    refine wp_loop' Nat (fun c => ⟨[(1, .ptr 1 0), (4, .int z), (6, .sl 1 ((blameL b c).map .int) (.own 6)), (7, .ptr 7 0), (24, .sl 1 ((allC b).map SS) .sh), (25, .int ((b.cords.length + 1 : Nat) : Int)), (26, .int c)],
        [(7, ⟨[.int b.base, .int b.places, .sl 1 (b.cords.map SS) .sh, SS b.top, .clo 100 [] [], .clo 101 [] []], false⟩), (1, ⟨[.int b.base, .int b.places, .sl 1 (b.cords.map SS) .sh, SS b.top], false⟩)], [(6, (blameL b c).length)], none⟩)
        (fun c => c ≤ b.cords.length + 1) (fun c => b.cords.length + 1 - c) 0 (by simp) (by simp (config := { failIfUnchanged := false }) (disch := first | omega | (simp [wcs_len] <;> omega) | fail) only [go_sem, ↓reduceIte, reduceCtorEq, Nat.reduceEqDiff, Nat.reduceAdd, Nat.reduceMul, Nat.reduceSub, Nat.reduceLeDiff, Int.reduceEq, Int.reduceLT, Int.reduceLE, Int.reduceAdd, Int.reduceSub, Int.reduceMul, Int.reduceNeg, Int.reduceToNat]; simp [blameL]) ?_
    intro c hcl
    have hbl := blameL_len b c
    simp (config := { failIfUnchanged := false }) (disch := first | omega | (simp [wcs_len] <;> omega) | fail) only [go_sem, ↓reduceIte, reduceCtorEq, Nat.reduceEqDiff, Nat.reduceAdd, Nat.reduceMul, Nat.reduceSub, Nat.reduceLeDiff, Int.reduceEq, Int.reduceLT, Int.reduceLE, Int.reduceAdd, Int.reduceSub, Int.reduceMul, Int.reduceNeg, Int.reduceToNat]
    refine wcond_dec (fun h1 => ?_) (fun h1 => ?_)
    · have hclt : c < b.cords.length + 1 := by omega
      obtain ⟨cl, hcl2⟩ : ∃ cl, (allC b)[c]?.getD default = cl := ⟨_, rfl⟩
      have hclm : cl ∈ allC b := by rw [← hcl2]; exact mem_getD (by omega)
      have hcv : (cl.length : Int) = b.places ∧ ∀ s ∈ cl, 0 ≤ s.lo ∧ s.lo ≤ s.hi ∧ s.hi < b.base := by
        rcases List.mem_append.1 hclm with h | h
        · exact hv.cord cl h
        · simp at h; subst h; exact hv.top
      simp (config := { failIfUnchanged := false }) (disch := first | omega | (simp [wcs_len] <;> omega) | fail) only [go_sem, ↓reduceIte, reduceCtorEq, Nat.reduceEqDiff, Nat.reduceAdd, Nat.reduceMul, Nat.reduceSub, Nat.reduceLeDiff, Int.reduceEq, Int.reduceLT, Int.reduceLE, Int.reduceAdd, Int.reduceSub, Int.reduceMul, Int.reduceNeg, Int.reduceToNat, hcl2]
      refine wp_loop' Nat (fun p => ⟨[(1, .ptr 1 0), (4, .int z), (6, .sl 1 ((blameL b c).map .int) (.own 6)), (7, .ptr 7 0), (8, .int c), (24, .sl 1 ((allC b).map SS) .sh), (25, .int ((b.cords.length + 1 : Nat) : Int)), (26, .int c), (31, SS cl), (32, .int cl.length), (33, .int p)],
        [(7, ⟨[.int b.base, .int b.places, .sl 1 (b.cords.map SS) .sh, SS b.top, .clo 100 [] [], .clo 101 [] []], false⟩), (1, ⟨[.int b.base, .int b.places, .sl 1 (b.cords.map SS) .sh, SS b.top], false⟩)], [(6, (blameL b c).length)], none⟩)
        (fun p => p ≤ cl.length ∧ ∀ p', p' < p → ((List.range b.base.toNat).any fun d => blameAt b c p' d) = false) (fun p => cl.length - p) 0 (by simp) (by simp (config := { failIfUnchanged := false }) (disch := first | omega | (simp [wcs_len] <;> omega) | fail) only [go_sem, ↓reduceIte, reduceCtorEq, Nat.reduceEqDiff, Nat.reduceAdd, Nat.reduceMul, Nat.reduceSub, Nat.reduceLeDiff, Int.reduceEq, Int.reduceLT, Int.reduceLE, Int.reduceAdd, Int.reduceSub, Int.reduceMul, Int.reduceNeg, Int.reduceToNat]; simp) ?_
      rintro p ⟨hpl, hpre⟩
      simp (config := { failIfUnchanged := false }) (disch := first | omega | (simp [wcs_len] <;> omega) | fail) only [go_sem, ↓reduceIte, reduceCtorEq, Nat.reduceEqDiff, Nat.reduceAdd, Nat.reduceMul, Nat.reduceSub, Nat.reduceLeDiff, Int.reduceEq, Int.reduceLT, Int.reduceLE, Int.reduceAdd, Int.reduceSub, Int.reduceMul, Int.reduceNeg, Int.reduceToNat]
      refine wcond_dec (fun h2 => ?_) (fun h2 => ?_)
      · have hplt : p < cl.length := by omega
        obtain ⟨s, hsp⟩ : ∃ s, cl[p]?.getD default = s := ⟨_, rfl⟩
        have hsv := hcv.2 s (by rw [← hsp]; exact mem_getD hplt)
        simp (config := { failIfUnchanged := false }) (disch := first | omega | (simp [wcs_len] <;> omega) | fail) only [go_sem, ↓reduceIte, reduceCtorEq, Nat.reduceEqDiff, Nat.reduceAdd, Nat.reduceMul, Nat.reduceSub, Nat.reduceLeDiff, Int.reduceEq, Int.reduceLT, Int.reduceLE, Int.reduceAdd, Int.reduceSub, Int.reduceMul, Int.reduceNeg, Int.reduceToNat, hsp]
        refine wp_loop' Nat (fun d => ⟨[(1, .ptr 1 0), (4, .int z), (6, .sl 1 ((blameL b c).map .int) (.own 6)), (7, .ptr 7 0), (8, .int c), (10, .int p), (11, .ptr 11 0), (24, .sl 1 ((allC b).map SS) .sh), (25, .int ((b.cords.length + 1 : Nat) : Int)), (26, .int c), (31, SS cl), (32, .int cl.length), (33, .int p), (39, .int b.base), (40, .int d)],
          [(11, ⟨[.int s.lo, .int s.hi], false⟩), (7, ⟨[.int b.base, .int b.places, .sl 1 (b.cords.map SS) .sh, SS b.top, .clo 100 [] [], .clo 101 [] []], false⟩), (1, ⟨[.int b.base, .int b.places, .sl 1 (b.cords.map SS) .sh, SS b.top], false⟩)], [(6, (blameL b c).length)], none⟩)
          (fun d => d ≤ B ∧ ∀ d', d' < d → blameAt b c p d' = false) (fun d => B - d) 0 (by simp) (by simp (config := { failIfUnchanged := false }) (disch := first | omega | (simp [wcs_len] <;> omega) | fail) only [go_sem, ↓reduceIte, reduceCtorEq, Nat.reduceEqDiff, Nat.reduceAdd, Nat.reduceMul, Nat.reduceSub, Nat.reduceLeDiff, Int.reduceEq, Int.reduceLT, Int.reduceLE, Int.reduceAdd, Int.reduceSub, Int.reduceMul, Int.reduceNeg, Int.reduceToNat]; simp) ?_
        rintro d ⟨hdl, hdpre⟩
        have hat : blameAt b c p d = (decide (0 < costL s d) && decide ((solveL b (onlyF yes3 c p d) yes2).k = z)) := by
          unfold blameAt
          rw [hcl2, hsp, hz]
        have hyes : blameAt b c p d = true → d < B → blameL b (c + 1) = blameL b c ++ [(c : Int)] := by
          intro h hd
          rw [blameL_succ]
          have : blameC b c = true := by
            unfold blameC
            rw [List.any_eq_true]
            refine ⟨p, by rw [hcl2]; exact List.mem_range.2 hplt, ?_⟩
            rw [List.any_eq_true]
            exact ⟨d, List.mem_range.2 (by omega), h⟩
          rw [this]
          rfl
        have hno : blameAt b c p d = false → ∀ d', d' < d + 1 → blameAt b c p d' = false := by
          intro h d' hd'
          rcases Nat.lt_or_ge d' d with h' | h'
          · exact hdpre d' h'
          · rw [show d' = d by omega]; exact h
        simp (config := { failIfUnchanged := false }) (disch := first | omega | (simp [wcs_len] <;> omega) | fail) only [go_sem, ↓reduceIte, reduceCtorEq, Nat.reduceEqDiff, Nat.reduceAdd, Nat.reduceMul, Nat.reduceSub, Nat.reduceLeDiff, Int.reduceEq, Int.reduceLT, Int.reduceLE, Int.reduceAdd, Int.reduceSub, Int.reduceMul, Int.reduceNeg, Int.reduceToNat]
        refine wcond_dec (fun h3 => ?_) (fun h3 => ?_)
        · simp (config := { failIfUnchanged := false }) (disch := first | omega | (simp [wcs_len] <;> omega) | fail) only [go_sem, ↓reduceIte, reduceCtorEq, Nat.reduceEqDiff, Nat.reduceAdd, Nat.reduceMul, Nat.reduceSub, Nat.reduceLeDiff, Int.reduceEq, Int.reduceLT, Int.reduceLE, Int.reduceAdd, Int.reduceSub, Int.reduceMul, Int.reduceNeg, Int.reduceToNat]
          refine wcall (c73 s d (by omega) (by omega) (by omega)) ?_
          have hcost : max (max 0 (s.lo - (d : Int))) ((d : Int) - s.hi) = costL s d := rfl
          rw [hcost]
          simp (config := { failIfUnchanged := false }) (disch := first | omega | (simp [wcs_len] <;> omega) | fail) only [go_sem, ↓reduceIte, reduceCtorEq, Nat.reduceEqDiff, Nat.reduceAdd, Nat.reduceMul, Nat.reduceSub, Nat.reduceLeDiff, Int.reduceEq, Int.reduceLT, Int.reduceLE, Int.reduceAdd, Int.reduceSub, Int.reduceMul, Int.reduceNeg, Int.reduceToNat]
          refine WGd_bool (fun h4 => ?_) (fun h4 => ?_)
          · simp (config := { failIfUnchanged := false }) (disch := first | omega | (simp [wcs_len] <;> omega) | fail) only [go_sem, ↓reduceIte, reduceCtorEq, Nat.reduceEqDiff, Nat.reduceAdd, Nat.reduceMul, Nat.reduceSub, Nat.reduceLeDiff, Int.reduceEq, Int.reduceLT, Int.reduceLE, Int.reduceAdd, Int.reduceSub, Int.reduceMul, Int.reduceNeg, Int.reduceToNat, h4]
            refine wcall (c74 b 100 101 [] [] c p d) ?_
            simp (config := { failIfUnchanged := false }) (disch := first | omega | (simp [wcs_len] <;> omega) | fail) only [go_sem, ↓reduceIte, reduceCtorEq, Nat.reduceEqDiff, Nat.reduceAdd, Nat.reduceMul, Nat.reduceSub, Nat.reduceLeDiff, Int.reduceEq, Int.reduceLT, Int.reduceLE, Int.reduceAdd, Int.reduceSub, Int.reduceMul, Int.reduceNeg, Int.reduceToNat, h4]
            refine wcall (c71 b hv 108 101 _ [] (onlyF yes3 c p d) yes2 (fun c' p' d' _ _ _ => c108 100 [] yes3 c p d c' p' d' (c100 c' p' d')) (fun p n _ _ => c101 p n)) ?_
            simp (config := { failIfUnchanged := false }) (disch := first | omega | (simp [wcs_len] <;> omega) | fail) only [go_sem, ↓reduceIte, reduceCtorEq, Nat.reduceEqDiff, Nat.reduceAdd, Nat.reduceMul, Nat.reduceSub, Nat.reduceLeDiff, Int.reduceEq, Int.reduceLT, Int.reduceLE, Int.reduceAdd, Int.reduceSub, Int.reduceMul, Int.reduceNeg, Int.reduceToNat, h4]
            simp only [decide_eq_true_eq, gt_iff_lt] at h4
            refine wcond_dec (fun h5 => ?_) (fun h5 => ?_)
            · simp (config := { failIfUnchanged := false }) (disch := first | omega | (simp [wcs_len] <;> omega) | fail) only [go_sem, ↓reduceIte, reduceCtorEq, Nat.reduceEqDiff, Nat.reduceAdd, Nat.reduceMul, Nat.reduceSub, Nat.reduceLeDiff, Int.reduceEq, Int.reduceLT, Int.reduceLE, Int.reduceAdd, Int.reduceSub, Int.reduceMul, Int.reduceNeg, Int.reduceToNat]
              refine ⟨c + 1, by omega, by dsimp only; omega, ?_⟩
              dsimp only
              rw [hyes (by rw [hat]; simp [h4, h5]) (by omega)]
              simp (config := { failIfUnchanged := false }) (disch := first | omega | (simp [wcs_len] <;> omega) | fail) only [go_sem, ↓reduceIte, reduceCtorEq, Nat.reduceEqDiff, Nat.reduceAdd, Nat.reduceMul, Nat.reduceSub, Nat.reduceLeDiff, Int.reduceEq, Int.reduceLT, Int.reduceLE, Int.reduceAdd, Int.reduceSub, Int.reduceMul, Int.reduceNeg, Int.reduceToNat]
              simp
            · simp (config := { failIfUnchanged := false }) (disch := first | omega | (simp [wcs_len] <;> omega) | fail) only [go_sem, ↓reduceIte, reduceCtorEq, Nat.reduceEqDiff, Nat.reduceAdd, Nat.reduceMul, Nat.reduceSub, Nat.reduceLeDiff, Int.reduceEq, Int.reduceLT, Int.reduceLE, Int.reduceAdd, Int.reduceSub, Int.reduceMul, Int.reduceNeg, Int.reduceToNat]
              refine ⟨d + 1, ⟨by omega, hno (by rw [hat]; simp [h5])⟩, by dsimp only; omega, ?_⟩
              simp (config := { failIfUnchanged := false }) (disch := first | omega | (simp [wcs_len] <;> omega) | fail) only [go_sem, ↓reduceIte, reduceCtorEq, Nat.reduceEqDiff, Nat.reduceAdd, Nat.reduceMul, Nat.reduceSub, Nat.reduceLeDiff, Int.reduceEq, Int.reduceLT, Int.reduceLE, Int.reduceAdd, Int.reduceSub, Int.reduceMul, Int.reduceNeg, Int.reduceToNat]
              simp
          · simp (config := { failIfUnchanged := false }) (disch := first | omega | (simp [wcs_len] <;> omega) | fail) only [go_sem, ↓reduceIte, reduceCtorEq, Nat.reduceEqDiff, Nat.reduceAdd, Nat.reduceMul, Nat.reduceSub, Nat.reduceLeDiff, Int.reduceEq, Int.reduceLT, Int.reduceLE, Int.reduceAdd, Int.reduceSub, Int.reduceMul, Int.reduceNeg, Int.reduceToNat, h4]
            simp only [Bool.not_true, decide_eq_false_iff_not, gt_iff_lt] at h4
            refine ⟨d + 1, ⟨by omega, hno (by rw [hat]; simp [h4])⟩, by dsimp only; omega, ?_⟩
            simp (config := { failIfUnchanged := false }) (disch := first | omega | (simp [wcs_len] <;> omega) | fail) only [go_sem, ↓reduceIte, reduceCtorEq, Nat.reduceEqDiff, Nat.reduceAdd, Nat.reduceMul, Nat.reduceSub, Nat.reduceLeDiff, Int.reduceEq, Int.reduceLT, Int.reduceLE, Int.reduceAdd, Int.reduceSub, Int.reduceMul, Int.reduceNeg, Int.reduceToNat]
            simp
        · simp (config := { failIfUnchanged := false }) (disch := first | omega | (simp [wcs_len] <;> omega) | fail) only [go_sem, ↓reduceIte, reduceCtorEq, Nat.reduceEqDiff, Nat.reduceAdd, Nat.reduceMul, Nat.reduceSub, Nat.reduceLeDiff, Int.reduceEq, Int.reduceLT, Int.reduceLE, Int.reduceAdd, Int.reduceSub, Int.reduceMul, Int.reduceNeg, Int.reduceToNat]
          have ed : d = B := by omega
          refine ⟨p + 1, ⟨by omega, fun p' hp' => ?_⟩, by dsimp only; omega, ?_⟩
          · rcases Nat.lt_or_ge p' p with h' | h'
            · exact hpre p' h'
            · rw [show p' = p by omega, List.any_eq_false]
              intro d' hd'
              rw [hdpre d' (by have := List.mem_range.1 hd'; omega)]
              simp
          · simp (config := { failIfUnchanged := false }) (disch := first | omega | (simp [wcs_len] <;> omega) | fail) only [go_sem, ↓reduceIte, reduceCtorEq, Nat.reduceEqDiff, Nat.reduceAdd, Nat.reduceMul, Nat.reduceSub, Nat.reduceLeDiff, Int.reduceEq, Int.reduceLT, Int.reduceLE, Int.reduceAdd, Int.reduceSub, Int.reduceMul, Int.reduceNeg, Int.reduceToNat]
            simp
      · simp (config := { failIfUnchanged := false }) (disch := first | omega | (simp [wcs_len] <;> omega) | fail) only [go_sem, ↓reduceIte, reduceCtorEq, Nat.reduceEqDiff, Nat.reduceAdd, Nat.reduceMul, Nat.reduceSub, Nat.reduceLeDiff, Int.reduceEq, Int.reduceLT, Int.reduceLE, Int.reduceAdd, Int.reduceSub, Int.reduceMul, Int.reduceNeg, Int.reduceToNat]
        have ep : p = cl.length := by omega
        refine ⟨c + 1, by omega, by dsimp only; omega, ?_⟩
        have : blameC b c = false := by
          unfold blameC
          rw [List.any_eq_false]
          intro p' hp'
          rw [hcl2] at hp'
          rw [hpre p' (by have := List.mem_range.1 hp'; omega)]
          simp
        dsimp only
        rw [blameL_succ, this]
        simp (config := { failIfUnchanged := false }) (disch := first | omega | (simp [wcs_len] <;> omega) | fail) only [go_sem, ↓reduceIte, reduceCtorEq, Nat.reduceEqDiff, Nat.reduceAdd, Nat.reduceMul, Nat.reduceSub, Nat.reduceLeDiff, Int.reduceEq, Int.reduceLT, Int.reduceLE, Int.reduceAdd, Int.reduceSub, Int.reduceMul, Int.reduceNeg, Int.reduceToNat]
        simp
    · simp (config := { failIfUnchanged := false }) (disch := first | omega | (simp [wcs_len] <;> omega) | fail) only [go_sem, ↓reduceIte, reduceCtorEq, Nat.reduceEqDiff, Nat.reduceAdd, Nat.reduceMul, Nat.reduceSub, Nat.reduceLeDiff, Int.reduceEq, Int.reduceLT, Int.reduceLE, Int.reduceAdd, Int.reduceSub, Int.reduceMul, Int.reduceNeg, Int.reduceToNat]
      have e : c = b.cords.length + 1 := by omega
      subst e
      refine wcond_dec (fun h2 => ?_) (fun h2 => ?_)
      · simp (config := { failIfUnchanged := false }) (disch := first | omega | (simp [wcs_len] <;> omega) | fail) only [go_sem, ↓reduceIte, reduceCtorEq, Nat.reduceEqDiff, Nat.reduceAdd, Nat.reduceMul, Nat.reduceSub, Nat.reduceLeDiff, Int.reduceEq, Int.reduceLT, Int.reduceLE, Int.reduceAdd, Int.reduceSub, Int.reduceMul, Int.reduceNeg, Int.reduceToNat, h2]
        have h2' : (blameL b (b.cords.length + 1)).length = 0 := by omega
        simp [h2']
      · simp (config := { failIfUnchanged := false }) (disch := first | omega | (simp [wcs_len] <;> omega) | fail) only [go_sem, ↓reduceIte, reduceCtorEq, Nat.reduceEqDiff, Nat.reduceAdd, Nat.reduceMul, Nat.reduceSub, Nat.reduceLeDiff, Int.reduceEq, Int.reduceLT, Int.reduceLE, Int.reduceAdd, Int.reduceSub, Int.reduceMul, Int.reduceNeg, Int.reduceToNat, h2]
        have h2' : ¬ (blameL b (b.cords.length + 1)).length = 0 := by omega
        simp only [if_neg h2']

end Go.Proofs.Ytkkiipjfbebipaa

/- Plain law 1: sums over lists; tuples of numbers. -/
set_option linter.unusedSimpArgs false
set_option linter.unusedVariables false
set_option linter.unnecessarySimpa false
namespace Go.Proofs.Ytkkiipjfbebipaa

def sumF {α : Type} (l : List α) (f : α → Nat) : Nat := (l.map f).sum

section
variable {α β : Type}

theorem sumF_nil (f : α → Nat) : sumF [] f = 0 := rfl
theorem sumF_cons (a : α) (l : List α) (f : α → Nat) : sumF (a :: l) f = f a + sumF l f := by simp [sumF]
theorem sumF_append (l k : List α) (f : α → Nat) : sumF (l ++ k) f = sumF l f + sumF k f := by simp [sumF]
theorem sumF_map (l : List α) (g : α → β) (f : β → Nat) : sumF (l.map g) f = sumF l fun a => f (g a) := by simp [sumF, Function.comp_def]

theorem sumF_congr {l : List α} {f g : α → Nat} (h : ∀ a ∈ l, f a = g a) : sumF l f = sumF l g := by
  induction l with
  | nil => rfl
  | cons a r ih => rw [sumF_cons, sumF_cons, h a (by simp), ih fun b hb => h b (by simp [hb])]

theorem sumF_flatMap (l : List α) (g : α → List β) (f : β → Nat) : sumF (l.flatMap g) f = sumF l fun a => sumF (g a) f := by
  induction l with
  | nil => rfl
  | cons a r ih => rw [List.flatMap_cons, sumF_append, ih, sumF_cons]

theorem sumF_filter (l : List α) (p : α → Bool) (f : α → Nat) : sumF (l.filter p) f = sumF l fun a => if p a then f a else 0 := by
  induction l with
  | nil => rfl
  | cons a r ih =>
    rw [sumF_cons, ← ih]
    by_cases h : p a
    · rw [List.filter_cons_of_pos h, sumF_cons, if_pos h]
    · rw [List.filter_cons_of_neg h, if_neg h, Nat.zero_add]

theorem sumF_zero (l : List α) : (sumF l fun _ => 0) = 0 := by
  induction l with
  | nil => rfl
  | cons a r ih => rw [sumF_cons, ih]

theorem sumF_add (l : List α) (f g : α → Nat) : (sumF l fun a => f a + g a) = sumF l f + sumF l g := by
  induction l with
  | nil => rfl
  | cons a r ih => rw [sumF_cons, sumF_cons, sumF_cons, ih]; omega

theorem sumF_comm (l : List α) (k : List β) (f : α → β → Nat) : (sumF l fun a => sumF k (f a)) = sumF k fun b => sumF l fun a => f a b := by
  induction l with
  | nil => simp only [sumF_nil, sumF_zero]
  | cons a r ih =>
    rw [sumF_cons, ih, ← sumF_add]
    exact sumF_congr fun b _ => by rw [sumF_cons]

theorem sumF_if (c : Prop) [Decidable c] (l : List α) (f : α → Nat) : (if c then sumF l f else 0) = sumF l fun a => if c then f a else 0 := by
  by_cases h : c
  · simp only [if_pos h]
  · simp only [if_neg h, sumF_zero]

theorem sumF_pos {l : List α} {f : α → Nat} : 0 < sumF l f ↔ ∃ a ∈ l, 0 < f a := by
  induction l with
  | nil => simp [sumF_nil]
  | cons a r ih =>
    rw [sumF_cons]
    constructor
    · intro h
      by_cases h1 : 0 < f a
      · exact ⟨a, by simp, h1⟩
      · obtain ⟨b, hb, h2⟩ := ih.1 (by omega)
        exact ⟨b, by simp [hb], h2⟩
    · rintro ⟨b, hb, h⟩
      rcases List.mem_cons.1 hb with rfl | hb
      · omega
      · have := ih.2 ⟨b, hb, h⟩
        omega

theorem sumF_le {l : List α} {f g : α → Nat} (h : ∀ a ∈ l, f a ≤ g a) : sumF l f ≤ sumF l g := by
  induction l with
  | nil => simp [sumF_nil]
  | cons a r ih =>
    rw [sumF_cons, sumF_cons]
    have := h a (by simp)
    have := ih fun b hb => h b (by simp [hb])
    omega

theorem sumF_len (l : List α) : (sumF l fun _ => 1) = l.length := by
  induction l with
  | nil => rfl
  | cons a r ih => rw [sumF_cons, ih, List.length_cons]; omega

theorem sumF_range_succ (n : Nat) (f : Nat → Nat) : sumF (List.range (n + 1)) f = sumF (List.range n) f + f n := by
  rw [List.range_succ, sumF_append, sumF_cons, sumF_nil, Nat.add_zero]

theorem sumF_range_add (n m : Nat) (f : Nat → Nat) : sumF (List.range (n + m)) f = sumF (List.range n) f + sumF (List.range m) fun t => f (n + t) := by
  induction m with
  | zero => simp [sumF_nil]
  | succ m ih => rw [← Nat.add_assoc, sumF_range_succ, ih, sumF_range_succ, Nat.add_assoc]

theorem sumF_range_mul (B N : Nat) (f : Nat → Nat) : sumF (List.range (B * N)) f = sumF (List.range B) fun d => sumF (List.range N) fun t => f (d * N + t) := by
  induction B with
  | zero => simp [sumF_nil]
  | succ B ih => rw [Nat.succ_mul, sumF_range_add, ih, sumF_range_succ]

/-- One element alone counts. -/
theorem sumF_range_one {n k : Nat} (h : k < n) (f : Nat → Nat) : (sumF (List.range n) fun i => if i = k then f i else 0) = f k := by
  induction n with
  | zero => omega
  | succ n ih =>
    rw [sumF_range_succ]
    by_cases e : n = k
    · subst e
      have : (sumF (List.range n) fun i => if i = n then f i else 0) = 0 := by
        refine Eq.trans (sumF_congr (g := fun _ => 0) fun a ha => ?_) (sumF_zero (List.range n))
        have := List.mem_range.1 ha
        rw [if_neg (by omega)]
      rw [this, if_pos rfl]
      omega
    · rw [ih (by omega), if_neg e, Nat.add_zero]

end

/-- All tuples of m numbers below N. -/
def tup : Nat → Nat → List (List Nat)
  | 0, _ => [[]]
  | m + 1, N => (List.range N).flatMap fun n => (tup m N).map fun t => n :: t

theorem tup_mem {m N : Nat} : ∀ {t : List Nat}, t ∈ tup m N ↔ t.length = m ∧ ∀ x ∈ t, x < N := by
  induction m with
  | zero =>
    intro t
    simp only [tup, List.mem_singleton]
    constructor
    · rintro rfl; simp
    · rintro ⟨h, _⟩; exact List.eq_nil_of_length_eq_zero h
  | succ m ih =>
    intro t
    simp only [tup, List.mem_flatMap, List.mem_range, List.mem_map]
    constructor
    · rintro ⟨n, hn, u, hu, rfl⟩
      obtain ⟨h1, h2⟩ := ih.1 hu
      refine ⟨by simp [h1], fun x hx => ?_⟩
      rcases List.mem_cons.1 hx with rfl | hx
      · exact hn
      · exact h2 x hx
    · rintro ⟨h1, h2⟩
      cases t with
      | nil => simp at h1
      | cons n u => exact ⟨n, h2 n (by simp), u, ih.2 ⟨by simpa using h1, fun x hx => h2 x (by simp [hx])⟩, rfl⟩

theorem sumF_tup_succ (m N : Nat) (f : List Nat → Nat) : sumF (tup (m + 1) N) f = sumF (List.range N) fun n => sumF (tup m N) fun t => f (n :: t) := by
  rw [tup, sumF_flatMap]
  exact sumF_congr fun n _ => by rw [sumF_map]

/-- Digits ahead of numbers. -/
def comb (N : Nat) : List Nat → List Nat → List Nat
  | d :: ds, t :: ts => (d * N + t) :: comb N ds ts
  | _, _ => []

theorem sumF_tup_mul (B N : Nat) : ∀ (m : Nat) (f : List Nat → Nat), sumF (tup m (B * N)) f = sumF (tup m N) fun t => sumF (tup m B) fun d => f (comb N d t)
  | 0, f => by simp [tup, sumF_cons, sumF_nil, comb]
  | m + 1, f => by
    rw [sumF_tup_succ, sumF_range_mul, sumF_tup_succ]
    have : (fun d => sumF (List.range N) fun t => sumF (tup m (B * N)) fun u => f ((d * N + t) :: u)) = fun d => sumF (List.range N) fun t => sumF (tup m N) fun u => sumF (tup m B) fun e => f ((d * N + t) :: comb N e u) := by
      funext d
      congr 1
      funext t
      exact sumF_tup_mul B N m _
    rw [this, sumF_comm]
    refine sumF_congr fun t _ => ?_
    rw [sumF_comm]
    refine sumF_congr fun u _ => ?_
    rw [sumF_tup_succ]
    rfl

theorem comb_low {N : Nat} : ∀ {d t : List Nat}, d.length = t.length → (∀ x ∈ t, x < N) → (comb N d t).map (· % N) = t ∧ (comb N d t).map (· / N) = d
  | [], [], _, _ => ⟨rfl, rfl⟩
  | d :: ds, t :: ts, hl, ht => by
    obtain ⟨h1, h2⟩ := comb_low (d := ds) (t := ts) (by simpa using hl) fun x hx => ht x (by simp [hx])
    have h0 := ht t (by simp)
    simp only [comb, List.map_cons, h1, h2, List.cons.injEq, and_true]
    constructor
    · rw [Nat.mul_comm, Nat.mul_add_mod, Nat.mod_eq_of_lt h0]
    · rw [Nat.mul_comm, Nat.mul_add_div (by omega), Nat.div_eq_of_lt h0, Nat.add_zero]
  | [], _ :: _, h, _ => by simp at h
  | _ :: _, [], h, _ => by simp at h

end Go.Proofs.Ytkkiipjfbebipaa

/- Plain law 2: what the sums of a loom stand for. -/
set_option linter.unusedSimpArgs false
set_option linter.unusedVariables false
set_option linter.unnecessarySimpa false
namespace Go.Proofs.Ytkkiipjfbebipaa
open Go Go.V

abbrev at0 (s : List Wy) (n : Nat) : Wy := s[n]?.getD default

/-- The sums stand for a list of ways: a sum and a cost each. -/
structure Sem (s : List Wy) (L : List (Nat × Int)) : Prop where
  r : ∀ n, n < 51 → (at0 s n).r = ((sumF L fun e => if e.1 = n ∧ e.2 = 0 then 1 else 0 : Nat) : Int)
  lo : ∀ n, n < 51 → ∀ e ∈ L, e.1 = n → (at0 s n).k ≤ e.2
  ex : ∀ n, n < 51 → (at0 s n).k = 1048576 ∨ ∃ e ∈ L, e.1 = n ∧ e.2 = (at0 s n).k

theorem at0_set (s : List Wy) (i j : Nat) (w : Wy) (h : s.length = 51) (hi : i < 51) : at0 (s.set i w) j = if i = j then w else at0 s j := by
  unfold at0
  rw [List.getElem?_set]
  by_cases e : i = j
  · subst e
    simp [h, hi]
  · rw [if_neg e, if_neg e]

theorem addD_len (d : Nat) (cost : Int) (s : List Wy) : ∀ (m : Nat) (out : List Wy), ((List.range m).foldl (addN d cost s) out).length = out.length
  | 0, _ => rfl
  | m + 1, out => by
    rw [List.range_succ, List.foldl_append]
    simp only [List.foldl_cons, List.foldl_nil, addN, List.length_set]
    exact addD_len d cost s m out

theorem addD_at (d : Nat) (cost : Int) (s out : List Wy) (ho : out.length = 51) (j : Nat) : ∀ m, m + d ≤ 51 → at0 ((List.range m).foldl (addN d cost s) out) j =
    if d ≤ j ∧ j < d + m then ⟨min (at0 out j).k ((at0 s (j - d)).k + cost), if cost = 0 then w64 ((at0 out j).r + (at0 s (j - d)).r) else (at0 out j).r⟩ else at0 out j
  | 0, _ => by rw [if_neg (by omega)]; rfl
  | m + 1, h => by
    have ih := fun j => addD_at d cost s out ho j m (by omega)
    rw [List.range_succ, List.foldl_append]
    simp only [List.foldl_cons, List.foldl_nil]
    rw [addN, at0_set _ _ _ _ (by rw [addD_len]; exact ho) (by omega)]
    by_cases e : m + d = j
    · rw [if_pos e, if_pos (show d ≤ j ∧ j < d + (m + 1) by omega)]
      have hm : at0 ((List.range m).foldl (addN d cost s) out) (m + d) = at0 out (m + d) := by rw [ih, if_neg (by omega)]
      simp only [at0] at hm
      rw [hm]
      subst e
      rw [Nat.add_sub_cancel]
    · rw [if_neg e, ih j]
      by_cases h2 : d ≤ j ∧ j < d + m
      · rw [if_pos h2, if_pos (show d ≤ j ∧ j < d + (m + 1) by omega)]
      · rw [if_neg h2, if_neg (show ¬ (d ≤ j ∧ j < d + (m + 1)) by omega)]

theorem sem_addD {d : Nat} {cost : Int} {s out : List Wy} {Ls Lo : List (Nat × Int)} (hs : Sem s Ls) (ho : Sem out Lo) (okS : Okw s) (okO : Okw out) (hc : 0 ≤ cost)
    (hb : ∀ e ∈ Ls, e.1 + d < 51 ∧ 0 ≤ e.2) (hd : d ≤ 51) (hl : Lo.length + Ls.length < 9223372036854775807) : Sem (addD d cost s out) (Lo ++ Ls.map fun e => (e.1 + d, e.2 + cost)) := by
  have hat := fun j => addD_at d cost s out okO.len j (51 - d) (by omega)
  have hcnt : ∀ (L : List (Nat × Int)) (n : Nat), (sumF L fun e => if e.1 = n ∧ e.2 = 0 then 1 else 0) ≤ L.length := by
    intro L n
    rw [← sumF_len]
    exact sumF_le fun e _ => by split <;> omega
  refine ⟨fun n hn => ?_, fun n hn e he h1 => ?_, fun n hn => ?_⟩
  · rw [addD, hat, sumF_append, sumF_map]
    by_cases h : d ≤ n
    · rw [if_pos (by omega)]
      have e1 : (sumF Ls fun a => if a.1 + d = n ∧ a.2 + cost = 0 then 1 else 0) = if cost = 0 then (sumF Ls fun e => if e.1 = n - d ∧ e.2 = 0 then 1 else 0) else 0 := by
        by_cases hz : cost = 0
        · rw [if_pos hz]
          refine sumF_congr fun a ha => ?_
          have := hb a ha
          by_cases q : a.1 = n - d ∧ a.2 = 0
          · rw [if_pos q, if_pos (by omega)]
          · rw [if_neg q, if_neg (by omega)]
        · rw [if_neg hz]
          refine Eq.trans (sumF_congr (g := fun _ => 0) fun a ha => ?_) (sumF_zero Ls)
          have := hb a ha
          rw [if_neg (by omega)]
      rw [e1]
      by_cases hz : cost = 0
      · simp only [if_pos hz]
        rw [ho.r n hn, hs.r (n - d) (by omega)]
        have := hcnt Lo n
        have := hcnt Ls (n - d)
        rw [w64_id (by omega)]
        omega
      · simp only [if_neg hz]
        rw [ho.r n hn]
        omega
    · rw [if_neg (by omega), ho.r n hn]
      have : (sumF Ls fun a => if a.1 + d = n ∧ a.2 + cost = 0 then 1 else 0) = 0 := by
        refine Eq.trans (sumF_congr (g := fun _ => 0) fun a ha => ?_) (sumF_zero Ls)
        rw [if_neg (by omega)]
      rw [this, Nat.add_zero]
  · rw [addD, hat]
    rcases List.mem_append.1 he with he | he
    · have := ho.lo n hn e he h1
      split
      · dsimp only; omega
      · exact this
    · obtain ⟨a, ha, rfl⟩ := List.mem_map.1 he
      dsimp only at h1 ⊢
      have := hs.lo (n - d) (by omega) a ha (by omega)
      rw [if_pos (by omega)]
      dsimp only
      omega
  · rw [addD, hat]
    split
    · rename_i hh
      dsimp only
      by_cases hle : (at0 out n).k ≤ (at0 s (n - d)).k + cost
      · rw [Int.min_eq_left hle]
        rcases ho.ex n hn with h | ⟨e, h1, h2, h3⟩
        · exact .inl h
        · exact .inr ⟨e, by simp [h1], h2, h3⟩
      · rw [Int.min_eq_right (by omega)]
        have hk := okO.k1 n hn
        rcases hs.ex (n - d) (by omega) with h | ⟨e, h1, h2, h3⟩
        · have h' : (s[n - d]?.getD default).k = 1048576 := h
          simp only [at0] at hle h hk
          omega
        · exact .inr ⟨(e.1 + d, e.2 + cost), by simp only [List.mem_append, List.mem_map]; exact .inr ⟨e, h1, rfl⟩, by dsimp only; omega, by dsimp only; omega⟩
    · rcases ho.ex n hn with h | ⟨e, h1, h2, h3⟩
      · exact .inl h
      · exact .inr ⟨e, by simp [h1], h2, h3⟩

/-- No way. -/
theorem sem_none : Sem ((emptyL 0).set 0 ⟨1048576, 0⟩) [] := by
  have hl : (emptyL 0).length = 51 := by simp [emptyL]
  have key : ∀ n, n < 51 → at0 ((emptyL 0).set 0 ⟨1048576, 0⟩) n = ⟨1048576, 0⟩ := by
    intro n hn
    rw [at0_set _ _ _ _ hl (by omega)]
    by_cases h : 0 = n
    · rw [if_pos h]
    · rw [if_neg h]
      simp only [at0, emptyL, List.getElem?_set, List.getElem?_replicate, List.length_replicate]
      rw [if_neg (by omega)]
      simp [hn]
  refine ⟨fun n hn => by rw [key n hn]; rfl, fun n hn e he => by simp at he, fun n hn => .inl (by rw [key n hn])⟩

/-- One way, of the sum 0. -/
theorem sem_one : Sem (emptyL 0) [(0, 0)] := by
  have key : ∀ n, n < 51 → at0 (emptyL 0) n = if n = 0 then ⟨0, 1⟩ else ⟨1048576, 0⟩ := by
    intro n hn
    simp only [at0, emptyL, List.getElem?_set, List.getElem?_replicate, List.length_replicate]
    by_cases h : n = 0
    · subst h; rfl
    · rw [if_neg (by omega), if_neg h]
      simp [hn]
  refine ⟨fun n hn => ?_, fun n hn e he h1 => ?_, fun n hn => ?_⟩
  · rw [key n hn, sumF_cons, sumF_nil]
    by_cases h : n = 0
    · subst h; rfl
    · rw [if_neg h, if_neg (by simp; omega)]; rfl
  · simp only [List.mem_singleton] at he
    subst he
    rw [key n hn, if_pos (by simp at h1; omega)]
    simp
  · rw [key n hn]
    by_cases h : n = 0
    · exact .inr ⟨(0, 0), by simp, by simp [h], by simp [h]⟩
    · rw [if_neg h]; exact .inl rfl

/-- A cluster's digits. -/
def moreW (base : Nat) (may : Nat → Bool) (cost : Nat → Int) (L : List (Nat × Int)) : List (Nat × Int) :=
  (List.range base).flatMap fun d => if may d then L.map fun e => (e.1 + d, e.2 + cost d) else []

theorem moreW_succ (base : Nat) (may : Nat → Bool) (cost : Nat → Int) (L : List (Nat × Int)) : moreW (base + 1) may cost L = moreW base may cost L ++ if may base then L.map fun e => (e.1 + base, e.2 + cost base) else [] := by
  unfold moreW
  rw [List.range_succ, List.flatMap_append]
  simp

theorem moreW_len (may : Nat → Bool) (cost : Nat → Int) (L : List (Nat × Int)) : ∀ base, (moreW base may cost L).length ≤ base * L.length
  | 0 => by simp [moreW]
  | base + 1 => by
    rw [moreW_succ, List.length_append, Nat.succ_mul]
    have := moreW_len may cost L base
    split <;> simp <;> omega

theorem sem_moreL {base : Nat} {may : Nat → Bool} {cost : Nat → Int} {s : List Wy} {L : List (Nat × Int)} (hs : Sem s L) (okS : Okw s) (hc : ∀ d, 0 ≤ cost d) (hb : ∀ e ∈ L, e.1 + base < 52 ∧ 0 ≤ e.2) (hbase : base ≤ 10)
    (hl : (base + 1) * L.length < 9223372036854775807) : Sem (moreL base may cost s) (moreW base may cost L) := by
  have key : ∀ m, m ≤ base → Sem ((List.range m).foldl (fun out d => if may d then addD d (cost d) s out else out) ((emptyL 0).set 0 ⟨1048576, 0⟩)) (moreW m may cost L) ∧ Okw ((List.range m).foldl (fun out d => if may d then addD d (cost d) s out else out) ((emptyL 0).set 0 ⟨1048576, 0⟩)) := by
    intro m
    induction m with
    | zero => intro _; exact ⟨sem_none, okw_set okw_empty (by simp) (by simp)⟩
    | succ m ih =>
      intro hm
      obtain ⟨ih1, ih2⟩ := ih (by omega)
      rw [List.range_succ, List.foldl_append, moreW_succ]
      simp only [List.foldl_cons, List.foldl_nil]
      by_cases h : may m
      · rw [if_pos h, if_pos h]
        refine ⟨sem_addD hs ih1 okS ih2 (hc m) (fun e he => ⟨by have := hb e he; omega, (hb e he).2⟩) (by omega) ?_, okw_addD okS ih2 (hc m) (51 - m) (by omega)⟩
        have h1 := moreW_len may cost L m
        have h2 : m * L.length + L.length ≤ (base + 1) * L.length := by rw [← Nat.succ_mul]; exact Nat.mul_le_mul_right _ (by omega)
        omega
      · rw [if_neg h, if_neg h, List.append_nil]
        exact ⟨ih1, ih2⟩
  exact (key base (Nat.le_refl _)).1

/-- The top cord's digit, and what is carried on. -/
def topW (base : Nat) (ok : Nat → Bool) (cost : Nat → Int) (L : List (Nat × Int)) : List (Nat × Int) :=
  (L.filter fun e => ok e.1).map fun e => (e.1 / base, e.2 + cost (e.1 % base))

end Go.Proofs.Ytkkiipjfbebipaa

/- Plain law 3: the ways of a whole book as a list. -/
set_option linter.unusedSimpArgs false
set_option linter.unusedVariables false
set_option linter.unnecessarySimpa false
namespace Go.Proofs.Ytkkiipjfbebipaa
open Go Go.V

theorem topN_len {b : Bk} {may : Nat → Nat → Nat → Bool} {carry : Nat → Nat → Bool} {p : Nat} {s : List Wy} : ∀ (m : Nat) (now : List Wy), ((List.range m).foldl (topN b may carry p s) now).length = now.length
  | 0, _ => rfl
  | m + 1, now => by
    rw [List.range_succ, List.foldl_append]
    simp only [List.foldl_cons, List.foldl_nil, topN]
    split
    · rw [List.length_set]; exact topN_len m now
    · exact topN_len m now

/-- The part of the ways whose sum is below N. -/
def topP (base : Nat) (ok : Nat → Bool) (cost : Nat → Int) (L : List (Nat × Int)) (N : Nat) : List (Nat × Int) :=
  (L.filter fun e => decide (e.1 < N) && ok e.1).map fun e => (e.1 / base, e.2 + cost (e.1 % base))

theorem topP_sum (base : Nat) (ok : Nat → Bool) (cost : Nat → Int) (L : List (Nat × Int)) (N : Nat) (g : Nat × Int → Nat) :
    sumF (topP base ok cost L (N + 1)) g = sumF (topP base ok cost L N) g + if ok N then sumF L (fun e => if e.1 = N then g (N / base, e.2 + cost (N % base)) else 0) else 0 := by
  unfold topP
  rw [sumF_map, sumF_map, sumF_filter, sumF_filter, sumF_if, ← sumF_add]
  refine sumF_congr fun e _ => ?_
  by_cases h : e.1 = N
  · subst h
    by_cases h2 : ok e.1
    · simp [h2]
    · simp [h2]
  · by_cases h2 : e.1 < N
    · have h3 : e.1 < N + 1 := by omega
      simp [h, h2, h3]
    · have h3 : ¬ e.1 < N + 1 := by omega
      simp [h, h2, h3]

theorem topP_mem (base : Nat) (ok : Nat → Bool) (cost : Nat → Int) (L : List (Nat × Int)) (N : Nat) (x : Nat × Int) :
    x ∈ topP base ok cost L (N + 1) ↔ x ∈ topP base ok cost L N ∨ (ok N = true ∧ ∃ e ∈ L, e.1 = N ∧ x = (N / base, e.2 + cost (N % base))) := by
  unfold topP
  simp only [List.mem_map, List.mem_filter, Bool.and_eq_true, decide_eq_true_eq]
  constructor
  · rintro ⟨e, ⟨h1, h2, h3⟩, rfl⟩
    by_cases h : e.1 < N
    · exact .inl ⟨e, ⟨h1, h, h3⟩, rfl⟩
    · have : e.1 = N := by omega
      rw [this] at h3 ⊢
      exact .inr ⟨h3, e, h1, this, rfl⟩
  · rintro (⟨e, ⟨h1, h2, h3⟩, rfl⟩ | ⟨h1, e, h2, h3, rfl⟩)
    · exact ⟨e, ⟨h1, by omega, h3⟩, rfl⟩
    · exact ⟨e, ⟨h2, by omega, by rw [h3]; exact h1⟩, by rw [h3]⟩

theorem sem_topN {b : Bk} {may : Nat → Nat → Nat → Bool} {carry : Nat → Nat → Bool} {p : Nat} {s : List Wy} {L : List (Nat × Int)} (hs : Sem s L) (okS : Okw s) (hB : 2 ≤ b.base.toNat) (hpos : ∀ e ∈ L, 0 ≤ e.2) (hl : 2 * L.length < 9223372036854775807) : ∀ N, N ≤ 51 →
    Sem ((List.range N).foldl (topN b may carry p s) ((emptyL 0).set 0 ⟨1048576, 0⟩)) (topP b.base.toNat (fun n => may b.cords.length p (n % b.base.toNat) && carry p (n / b.base.toNat)) (fun d => costL (topAt b p) d) L N) ∧
    Okw ((List.range N).foldl (topN b may carry p s) ((emptyL 0).set 0 ⟨1048576, 0⟩))
  | 0, _ => by
    have : topP b.base.toNat (fun n => may b.cords.length p (n % b.base.toNat) && carry p (n / b.base.toNat)) (fun d => costL (topAt b p) d) L 0 = [] := by simp [topP]
    rw [this]
    exact ⟨sem_none, okw_set okw_empty (by simp) (by simp)⟩
  | N + 1, h => by
    obtain ⟨ih1, ih2⟩ := sem_topN hs okS hB hpos hl N (by omega) (b := b) (may := may) (carry := carry) (p := p)
    generalize hok : (fun n => may b.cords.length p (n % b.base.toNat) && carry p (n / b.base.toNat)) = ok at ih1 ⊢
    generalize hco : (fun d : Nat => costL (topAt b p) d) = cost at ih1 ⊢
    generalize hnow : (List.range N).foldl (topN b may carry p s) ((emptyL 0).set 0 ⟨1048576, 0⟩) = now at ih1 ih2
    have hc0 : 0 ≤ cost (N % b.base.toNat) := by rw [← hco]; exact costL_nonneg _ _
    have hcN : costL (topAt b p) ((N % b.base.toNat : Nat) : Int) = cost (N % b.base.toNat) := by rw [← hco]
    have hokN : (may b.cords.length p (N % b.base.toNat) && carry p (N / b.base.toNat)) = ok N := by rw [← hok]
    have hq : N / b.base.toNat ≤ N := Nat.div_le_self _ _
    rw [List.range_succ, List.foldl_append, hnow]
    simp only [List.foldl_cons, List.foldl_nil, topN]
    rw [hokN, hcN]
    refine ⟨?_, ?_⟩
    · by_cases hN : ok N = true
      · rw [if_pos hN]
        have hlen : (topP b.base.toNat ok cost L N).length ≤ L.length := by
          unfold topP; rw [List.length_map]; exact List.length_filter_le _ _
        have hcnt : ∀ (M : List (Nat × Int)) (n : Nat), (sumF M fun e => if e.1 = n ∧ e.2 = 0 then 1 else 0) ≤ M.length := by
          intro M n
          rw [← sumF_len]
          exact sumF_le fun e _ => by split <;> omega
        have hat := fun n => at0_set now (N / b.base.toNat) n ⟨min (at0 now (N / b.base.toNat)).k ((at0 s N).k + cost (N % b.base.toNat)), if cost (N % b.base.toNat) = 0 then w64 ((at0 now (N / b.base.toNat)).r + (at0 s N).r) else (at0 now (N / b.base.toNat)).r⟩ ih2.len (by omega)
        refine ⟨fun n hn => ?_, fun n hn x hx h1 => ?_, fun n hn => ?_⟩
        · rw [hat, topP_sum, if_pos hN]
          by_cases e : N / b.base.toNat = n
          · rw [if_pos e]
            have e1 : (sumF L fun a => if a.1 = N then (if (N / b.base.toNat, a.2 + cost (N % b.base.toNat)).1 = n ∧ (N / b.base.toNat, a.2 + cost (N % b.base.toNat)).2 = 0 then 1 else 0) else 0) = if cost (N % b.base.toNat) = 0 then (sumF L fun e => if e.1 = N ∧ e.2 = 0 then 1 else 0) else 0 := by
              by_cases hz : cost (N % b.base.toNat) = 0
              · rw [if_pos hz]
                refine sumF_congr fun a ha => ?_
                have := hpos a ha
                by_cases q : a.1 = N
                · simp only [q, true_and, e, hz, Int.add_zero, if_true]
                · simp [q]
              · rw [if_neg hz]
                refine Eq.trans (sumF_congr (g := fun _ => 0) fun a ha => ?_) (sumF_zero L)
                have := hpos a ha
                by_cases q : a.1 = N
                · rw [if_pos q, if_neg (by dsimp only; omega)]
                · rw [if_neg q]
            rw [e1]
            subst e
            have i1 := ih1.r (N / b.base.toNat) (by omega)
            have i2 := hs.r N (by omega)
            have := hcnt (topP b.base.toNat ok cost L N) (N / b.base.toNat)
            have := hcnt L N
            dsimp only
            by_cases hz : cost (N % b.base.toNat) = 0
            · simp only [if_pos hz]
              rw [i1, i2, w64_id (by omega)]
              omega
            · simp only [if_neg hz]
              rw [i1]
              omega
          · rw [if_neg e, ih1.r n hn]
            have : (sumF L fun a => if a.1 = N then (if (N / b.base.toNat, a.2 + cost (N % b.base.toNat)).1 = n ∧ (N / b.base.toNat, a.2 + cost (N % b.base.toNat)).2 = 0 then 1 else 0) else 0) = 0 := by
              refine Eq.trans (sumF_congr (g := fun _ => 0) fun a ha => ?_) (sumF_zero L)
              by_cases q : a.1 = N
              · rw [if_pos q, if_neg (by dsimp only; omega)]
              · rw [if_neg q]
            rw [this, Nat.add_zero]
        · rw [hat]
          rcases (topP_mem _ _ _ _ _ _).1 hx with hx | ⟨_, a, ha, h2, rfl⟩
          · have := ih1.lo n hn x hx h1
            split
            · rename_i e
              subst e
              dsimp only
              omega
            · exact this
          · dsimp only at h1 ⊢
            rw [if_pos h1]
            have := hs.lo N (by omega) a ha h2
            dsimp only
            omega
        · rw [hat]
          split
          · rename_i e
            subst e
            dsimp only
            by_cases hle : (at0 now (N / b.base.toNat)).k ≤ (at0 s N).k + cost (N % b.base.toNat)
            · rw [Int.min_eq_left hle]
              rcases ih1.ex _ hn with h | ⟨x, h1, h2, h3⟩
              · exact .inl h
              · exact .inr ⟨x, (topP_mem _ _ _ _ _ _).2 (.inl h1), h2, h3⟩
            · rw [Int.min_eq_right (by omega)]
              have hk := ih2.k1 (N / b.base.toNat) hn
              rcases hs.ex N (by omega) with h | ⟨x, h1, h2, h3⟩
              · simp only [at0] at hle h hk
                omega
              · exact .inr ⟨(N / b.base.toNat, x.2 + cost (N % b.base.toNat)), (topP_mem _ _ _ _ _ _).2 (.inr ⟨hN, x, h1, h2, rfl⟩), rfl, by dsimp only; omega⟩
          · rcases ih1.ex n hn with h | ⟨x, h1, h2, h3⟩
            · exact .inl h
            · exact .inr ⟨x, (topP_mem _ _ _ _ _ _).2 (.inl h1), h2, h3⟩
      · rw [if_neg hN]
        refine ⟨fun n hn => ?_, fun n hn x hx h1 => ?_, fun n hn => ?_⟩
        · rw [topP_sum, if_neg hN, Nat.add_zero]
          exact ih1.r n hn
        · rcases (topP_mem _ _ _ _ _ _).1 hx with hx | ⟨h2, _⟩
          · exact ih1.lo n hn x hx h1
          · exact absurd h2 hN
        · rcases ih1.ex n hn with h | ⟨x, h1, h2, h3⟩
          · exact .inl h
          · exact .inr ⟨x, (topP_mem _ _ _ _ _ _).2 (.inl h1), h2, h3⟩
    · by_cases hN : ok N = true
      · rw [if_pos hN]
        have a := okS.k0 N (by omega)
        have h0 := ih2.k0 (N / b.base.toNat) (by omega)
        have h1 := ih2.k1 (N / b.base.toNat) (by omega)
        exact okw_set ih2 (by dsimp only; omega) (by dsimp only; omega)
      · rw [if_neg hN]
        exact ih2

theorem topP_all {base : Nat} {ok : Nat → Bool} {cost : Nat → Int} {L : List (Nat × Int)} {N : Nat} (h : ∀ e ∈ L, e.1 < N) : topP base ok cost L N = topW base ok cost L := by
  unfold topP topW
  congr 1
  apply List.filter_congr
  intro e he
  simp [h e he]

/-- A place's digits. -/
def colW (b : Bk) (may : Nat → Nat → Nat → Bool) (p : Nat) (L : List (Nat × Int)) : Nat → List (Nat × Int)
  | 0 => L
  | m + 1 => moreW b.base.toNat (may m p) (fun d => costL (spAt b m p) d) (colW b may p L m)

def stepW (b : Bk) (may : Nat → Nat → Nat → Bool) (carry : Nat → Nat → Bool) (p : Nat) (L : List (Nat × Int)) : List (Nat × Int) :=
  topW b.base.toNat (fun n => may b.cords.length p (n % b.base.toNat) && carry p (n / b.base.toNat)) (fun d => costL (topAt b p) d) (colW b may p L b.cords.length)

def solveW (b : Bk) (may : Nat → Nat → Nat → Bool) (carry : Nat → Nat → Bool) : Nat → List (Nat × Int) → List (Nat × Int)
  | 0, L => L
  | q + 1, L => solveW b may carry q (stepW b may carry q L)

theorem colL_succ (b : Bk) (may : Nat → Nat → Nat → Bool) (p : Nat) (s : List Wy) (m : Nat) : colL b may p s (m + 1) = moreL b.base.toNat (may m p) (fun d => costL (spAt b m p) d) (colL b may p s m) := by
  unfold colL
  rw [List.range_succ, List.foldl_append]
  rfl

theorem mem_moreW {base : Nat} {may : Nat → Bool} {cost : Nat → Int} {L : List (Nat × Int)} {x : Nat × Int} : x ∈ moreW base may cost L ↔ ∃ d, d < base ∧ may d = true ∧ ∃ e ∈ L, x = (e.1 + d, e.2 + cost d) := by
  unfold moreW
  simp only [List.mem_flatMap, List.mem_range]
  constructor
  · rintro ⟨d, hd, hx⟩
    by_cases h : may d = true
    · rw [if_pos h] at hx
      obtain ⟨e, he, rfl⟩ := List.mem_map.1 hx
      exact ⟨d, hd, h, e, he, rfl⟩
    · rw [if_neg h] at hx; simp at hx
  · rintro ⟨d, hd, h, e, he, rfl⟩
    exact ⟨d, hd, by rw [if_pos h]; exact List.mem_map.2 ⟨e, he, rfl⟩⟩

theorem sem_col {b : Bk} (hv : Val b) {may : Nat → Nat → Nat → Bool} {p : Nat} {s : List Wy} {L : List (Nat × Int)} (hs : Sem s L) (okS : Okw s) (hb : ∀ e ∈ L, e.1 ≤ b.cords.length ∧ 0 ≤ e.2) {M : Nat} (hL : L.length ≤ M) (hM : M ≤ 1000000000000) : ∀ m, m ≤ b.cords.length →
    Sem (colL b may p s m) (colW b may p L m) ∧ Okw (colL b may p s m) ∧ (∀ e ∈ colW b may p L m, e.1 ≤ b.cords.length + m * (b.base.toNat - 1) ∧ 0 ≤ e.2) ∧ (colW b may p L m).length ≤ 10 ^ m * M
  | 0, _ => ⟨hs, okS, by simpa [colW] using hb, by simpa [colW] using hL⟩
  | m + 1, h => by
    obtain ⟨hb1, hb2⟩ := hv.hb
    have hc4 := hv.hc
    obtain ⟨i1, i2, i3, i4⟩ := sem_col hv hs okS hb hL hM m (by omega) (may := may) (p := p)
    have hmm : m * (b.base.toNat - 1) ≤ 3 * 9 := Nat.mul_le_mul (by omega) (by omega)
    have hp : (10 : Nat) ^ m ≤ 1000 := by
      have : m = 0 ∨ m = 1 ∨ m = 2 ∨ m = 3 := by omega
      rcases this with rfl | rfl | rfl | rfl <;> decide
    have hlen : (colW b may p L m).length ≤ 1000 * 1000000000000 := Nat.le_trans i4 (Nat.mul_le_mul hp hM)
    have h11 : (b.base.toNat + 1) * (colW b may p L m).length ≤ 11 * (1000 * 1000000000000) := Nat.mul_le_mul (by omega) hlen
    rw [colL_succ]
    refine ⟨sem_moreL i1 i2 (fun d => costL_nonneg _ _) (fun e he => ⟨by have := i3 e he; omega, (i3 e he).2⟩) (by omega) (by omega), okw_moreL i2 (by omega) (fun d => costL_nonneg _ _), fun e he => ?_, ?_⟩
    · obtain ⟨d, hd, _, a, ha, rfl⟩ := mem_moreW.1 he
      have := i3 a ha
      have := costL_nonneg (spAt b m p) d
      rw [Nat.succ_mul]
      dsimp only
      omega
    · refine Nat.le_trans (moreW_len _ _ _ _) ?_
      refine Nat.le_trans (Nat.mul_le_mul (show b.base.toNat ≤ 10 by omega) i4) ?_
      rw [Nat.pow_succ, Nat.mul_comm (10 ^ m) 10, Nat.mul_assoc]
      exact Nat.le_refl _

theorem sem_step {b : Bk} (hv : Val b) {may : Nat → Nat → Nat → Bool} {carry : Nat → Nat → Bool} {p : Nat} {s : List Wy} {L : List (Nat × Int)} (hs : Sem s L) (okS : Okw s) (hb : ∀ e ∈ L, e.1 ≤ b.cords.length ∧ 0 ≤ e.2) {M : Nat} (hL : L.length ≤ M) (hM : M ≤ 1000000000000) :
    Sem (stepL b may carry p s) (stepW b may carry p L) ∧ Okw (stepL b may carry p s) ∧ (∀ e ∈ stepW b may carry p L, e.1 ≤ b.cords.length ∧ 0 ≤ e.2) ∧ (stepW b may carry p L).length ≤ 10000 * M := by
  obtain ⟨hb1, hb2⟩ := hv.hb
  have hc4 := hv.hc
  obtain ⟨i1, i2, i3, i4⟩ := sem_col hv hs okS hb hL hM b.cords.length (Nat.le_refl _) (may := may) (p := p)
  have hmm : b.cords.length * (b.base.toNat - 1) ≤ 4 * 9 := Nat.mul_le_mul (by omega) (by omega)
  have hp : (10 : Nat) ^ b.cords.length ≤ 10000 := by
    have : b.cords.length = 0 ∨ b.cords.length = 1 ∨ b.cords.length = 2 ∨ b.cords.length = 3 ∨ b.cords.length = 4 := by omega
    rcases this with h | h | h | h | h <;> rw [h] <;> decide
  have hlen : (colW b may p L b.cords.length).length ≤ 10000 * M := Nat.le_trans i4 (Nat.mul_le_mul_right _ hp)
  have hlen2 : 10000 * M ≤ 10000 * 1000000000000 := Nat.mul_le_mul_left _ hM
  obtain ⟨j1, j2⟩ := sem_topN i1 i2 (show 2 ≤ b.base.toNat by omega) (fun e he => (i3 e he).2) (by omega) 51 (Nat.le_refl _) (b := b) (may := may) (carry := carry) (p := p)
  rw [topP_all (fun e he => by have := i3 e he; omega)] at j1
  refine ⟨j1, j2, fun e he => ?_, ?_⟩
  · unfold stepW topW at he
    obtain ⟨a, ha, rfl⟩ := List.mem_map.1 he
    have := i3 a (List.mem_filter.1 ha).1
    have := costL_nonneg (topAt b p) ((a.1 % b.base.toNat : Nat) : Int)
    refine ⟨?_, by dsimp only; omega⟩
    dsimp only
    have e1 : b.cords.length + b.cords.length * (b.base.toNat - 1) = b.cords.length * b.base.toNat := by
      obtain ⟨B, hB⟩ : ∃ B, b.base.toNat = B + 1 := ⟨b.base.toNat - 1, by omega⟩
      rw [hB, Nat.add_sub_cancel, Nat.mul_succ, Nat.add_comm]
    have : a.1 ≤ b.cords.length * b.base.toNat := by omega
    exact Nat.div_le_of_le_mul (by rw [Nat.mul_comm]; exact this)
  · unfold stepW topW
    rw [List.length_map]
    exact Nat.le_trans (List.length_filter_le _ _) hlen

theorem sem_solve {b : Bk} (hv : Val b) {may : Nat → Nat → Nat → Bool} {carry : Nat → Nat → Bool} : ∀ (q : Nat) (s : List Wy) (L : List (Nat × Int)) (M : Nat), Sem s L → Okw s → (∀ e ∈ L, e.1 ≤ b.cords.length ∧ 0 ≤ e.2) → L.length ≤ M → 10000 ^ q * M ≤ 10000000000000000 →
    Sem (solveF b may carry q s) (solveW b may carry q L) ∧ ∀ e ∈ solveW b may carry q L, 0 ≤ e.2
  | 0, s, L, M, h1, _, h3, _, _ => ⟨h1, fun e he => (h3 e he).2⟩
  | q + 1, s, L, M, h1, h2, h3, h4, h5 => by
    have hq : 1 ≤ 10000 ^ q := Nat.one_le_pow _ _ (by omega)
    have hM : M ≤ 1000000000000 := by
      rw [Nat.pow_succ] at h5
      have : 1 * 10000 * M ≤ 10000 ^ q * 10000 * M := Nat.mul_le_mul_right _ (Nat.mul_le_mul_right _ hq)
      omega
    obtain ⟨i1, i2, i3, i4⟩ := sem_step hv h1 h2 h3 h4 hM (may := may) (carry := carry) (p := q)
    exact sem_solve hv q _ _ (10000 * M) i1 i2 i3 i4 (by rw [Nat.pow_succ, Nat.mul_assoc] at h5; exact h5)

theorem solveL_sem {b : Bk} (hv : Val b) (may : Nat → Nat → Nat → Bool) (carry : Nat → Nat → Bool) :
    (solveL b may carry).r = ((sumF (solveW b may carry b.places.toNat [(0, 0)]) fun e => if e.1 = 0 ∧ e.2 = 0 then 1 else 0 : Nat) : Int) ∧
    (∀ e ∈ solveW b may carry b.places.toNat [(0, 0)], e.1 = 0 → (solveL b may carry).k ≤ e.2) ∧
    ((solveL b may carry).k = 1048576 ∨ ∃ e ∈ solveW b may carry b.places.toNat [(0, 0)], e.1 = 0 ∧ e.2 = (solveL b may carry).k) := by
  have hp := hv.hp
  have h4 : 10000 ^ b.places.toNat * 1 ≤ 10000000000000000 := by
    have : b.places.toNat = 1 ∨ b.places.toNat = 2 ∨ b.places.toNat = 3 ∨ b.places.toNat = 4 := by omega
    rcases this with h | h | h | h <;> rw [h] <;> decide
  obtain ⟨h, _⟩ := sem_solve hv b.places.toNat (emptyL 0) [(0, 0)] 1 sem_one okw_empty (by simp) (by simp) h4 (may := may) (carry := carry)
  exact ⟨h.r 0 (by omega), h.lo 0 (by omega), h.ex 0 (by omega)⟩

end Go.Proofs.Ytkkiipjfbebipaa

/- Plain law 4: the ways are the tuples of numbers. -/
set_option linter.unusedSimpArgs false
set_option linter.unusedVariables false
set_option linter.unnecessarySimpa false
namespace Go.Proofs.Ytkkiipjfbebipaa
open Go Go.V

theorem sumF_tup_last (N : Nat) : ∀ (j : Nat) (f : List Nat → Nat), sumF (tup (j + 1) N) f = sumF (tup j N) fun t => sumF (List.range N) fun n => f (t ++ [n])
  | 0, f => by
    rw [sumF_tup_succ]
    simp [tup, sumF_cons, sumF_nil]
  | j + 1, f => by
    rw [sumF_tup_succ, sumF_tup_succ]
    refine sumF_congr fun n _ => ?_
    rw [sumF_tup_last N j]
    rfl

theorem sumF_moreW (base : Nat) (may : Nat → Bool) (cost : Nat → Int) (L : List (Nat × Int)) (g : Nat × Int → Nat) :
    sumF (moreW base may cost L) g = sumF L fun e => sumF (List.range base) fun d => if may d then g (e.1 + d, e.2 + cost d) else 0 := by
  rw [moreW, sumF_flatMap, sumF_comm]
  refine sumF_congr fun d _ => ?_
  by_cases h : may d = true
  · rw [if_pos h, sumF_map]
    exact sumF_congr fun e _ => by rw [if_pos h]
  · rw [if_neg h, sumF_nil]
    exact (Eq.trans (sumF_congr (g := fun _ => 0) fun e _ => by rw [if_neg h]) (sumF_zero L)).symm

/-- What the digits of a place may be. -/
def colOK (may : Nat → Nat → Nat → Bool) (p : Nat) (j : Nat) (d : List Nat) : Bool := (List.range j).all fun c => may c p (d[c]?.getD default)
def colCost (b : Bk) (p : Nat) (j : Nat) (d : List Nat) : Int := (List.range j).foldl (fun a c => a + costL (spAt b c p) (d[c]?.getD default : Nat)) 0

theorem colOK_snoc (may : Nat → Nat → Nat → Bool) (p j n : Nat) (d : List Nat) (h : d.length = j) : colOK may p (j + 1) (d ++ [n]) = (colOK may p j d && may j p n) := by
  unfold colOK
  rw [List.range_succ, List.all_append]
  congr 1
  · have : ∀ c, c ∈ List.range j → may c p ((d ++ [n])[c]?.getD default) = may c p (d[c]?.getD default) := by
      intro c hc
      have := List.mem_range.1 hc
      rw [List.getElem?_append_left (by omega)]
    rw [Bool.eq_iff_iff, List.all_eq_true, List.all_eq_true]
    exact ⟨fun h c hc => by rw [← this c hc]; exact h c hc, fun h c hc => by rw [this c hc]; exact h c hc⟩
  · subst h
    simp

theorem colCost_snoc (b : Bk) (p j n : Nat) (d : List Nat) (h : d.length = j) : colCost b p (j + 1) (d ++ [n]) = colCost b p j d + costL (spAt b j p) n := by
  unfold colCost
  rw [List.range_succ, List.foldl_append]
  simp only [List.foldl_cons, List.foldl_nil]
  have h2 : (d ++ [n])[j]?.getD default = n := by subst h; simp
  rw [h2]
  congr 1
  have : ∀ (l : List Nat) (a : Int), (∀ c ∈ l, c < j) → l.foldl (fun a c => a + costL (spAt b c p) ((d ++ [n])[c]?.getD default : Nat)) a = l.foldl (fun a c => a + costL (spAt b c p) (d[c]?.getD default : Nat)) a := by
    intro l
    induction l with
    | nil => intro a _; rfl
    | cons x r ih =>
      intro a hx
      simp only [List.foldl_cons]
      rw [ih _ fun c hc => hx c (by simp [hc]), List.getElem?_append_left (by have := hx x (by simp); omega)]
  exact this _ _ fun c hc => List.mem_range.1 hc

theorem sumF_colW (b : Bk) (may : Nat → Nat → Nat → Bool) (p : Nat) (L : List (Nat × Int)) : ∀ (j : Nat) (g : Nat × Int → Nat),
    sumF (colW b may p L j) g = sumF L fun e => sumF (tup j b.base.toNat) fun d => if colOK may p j d then g (e.1 + d.sum, e.2 + colCost b p j d) else 0
  | 0, g => by
    refine sumF_congr fun e _ => ?_
    simp [tup, sumF_cons, sumF_nil, colOK, colCost]
  | j + 1, g => by
    rw [colW, sumF_moreW, sumF_colW b may p L j]
    refine sumF_congr fun e _ => ?_
    rw [sumF_tup_last]
    refine sumF_congr fun t ht => ?_
    have hl := (tup_mem.1 ht).1
    rw [sumF_if]
    refine sumF_congr fun n _ => ?_
    rw [colOK_snoc _ _ _ _ _ hl, colCost_snoc _ _ _ _ _ hl]
    simp only [List.sum_append, List.sum_cons, List.sum_nil, Nat.add_zero, Bool.and_eq_true]
    by_cases h1 : colOK may p j t = true
    · by_cases h2 : may j p n = true
      · simp only [h1, h2, if_true, and_self, Nat.add_assoc, Int.add_assoc]
      · simp [h1, h2]
    · simp [h1]

/-- The digits' sum at a place, with what is carried to it. -/
def carT (B : Nat) : Nat → List Nat → Nat
  | 0, _ => 0
  | k + 1, t => ((t.map (· / B ^ k)).sum + carT B k (t.map (· % B ^ k))) / B

def colT (B k : Nat) (t : List Nat) : Nat := (t.map (· / B ^ k)).sum + carT B k (t.map (· % B ^ k))

def okT (b : Bk) (may : Nat → Nat → Nat → Bool) (carry : Nat → Nat → Bool) : Nat → List Nat → Bool
  | 0, _ => true
  | k + 1, t => okT b may carry k (t.map (· % b.base.toNat ^ k)) && (colOK may (b.places.toNat - 1 - k) b.cords.length (t.map (· / b.base.toNat ^ k)) &&
      (may b.cords.length (b.places.toNat - 1 - k) (colT b.base.toNat k t % b.base.toNat) && carry (b.places.toNat - 1 - k) (colT b.base.toNat k t / b.base.toNat)))

def costT (b : Bk) : Nat → List Nat → Int
  | 0, _ => 0
  | k + 1, t => costT b k (t.map (· % b.base.toNat ^ k)) + colCost b (b.places.toNat - 1 - k) b.cords.length (t.map (· / b.base.toNat ^ k)) + costL (topAt b (b.places.toNat - 1 - k)) (colT b.base.toNat k t % b.base.toNat : Nat)

/-- The ways by the places that are done. -/
def LK (b : Bk) (may : Nat → Nat → Nat → Bool) (carry : Nat → Nat → Bool) : Nat → List (Nat × Int)
  | 0 => [(0, 0)]
  | k + 1 => stepW b may carry (b.places.toNat - 1 - k) (LK b may carry k)

theorem solveW_LK (b : Bk) (may : Nat → Nat → Nat → Bool) (carry : Nat → Nat → Bool) : ∀ q, q ≤ b.places.toNat → solveW b may carry q (LK b may carry (b.places.toNat - q)) = LK b may carry b.places.toNat
  | 0, _ => by rw [Nat.sub_zero]; rfl
  | q + 1, h => by
    have ih := solveW_LK b may carry q (by omega)
    rw [show b.places.toNat - q = (b.places.toNat - (q + 1)) + 1 by omega, LK, show b.places.toNat - 1 - (b.places.toNat - (q + 1)) = q by omega] at ih
    exact ih

theorem sumF_LK (b : Bk) (may : Nat → Nat → Nat → Bool) (carry : Nat → Nat → Bool) : ∀ (k : Nat) (f : Nat × Int → Nat),
    sumF (LK b may carry k) f = sumF (tup b.cords.length (b.base.toNat ^ k)) fun t => if okT b may carry k t then f (carT b.base.toNat k t, costT b k t) else 0
  | 0, f => by
    have h1 : ∀ m, sumF (tup m 1) (fun t => if okT b may carry 0 t then f (carT b.base.toNat 0 t, costT b 0 t) else 0) = f (0, 0) := by
      intro m
      induction m with
      | zero => simp [tup, sumF_cons, sumF_nil, okT, carT, costT]
      | succ m ih =>
        rw [sumF_tup_succ]
        simp only [List.range_one, sumF_cons, sumF_nil, Nat.add_zero]
        exact ih
    rw [Nat.pow_zero, h1]
    simp [LK, sumF_cons, sumF_nil]
  | k + 1, f => by
    rw [LK, stepW, topW, sumF_map, sumF_filter, sumF_colW, sumF_LK b may carry k, Nat.pow_succ, Nat.mul_comm, sumF_tup_mul]
    refine sumF_congr fun t ht => ?_
    obtain ⟨hl, hlt⟩ := tup_mem.1 ht
    rw [sumF_if]
    refine sumF_congr fun d hd => ?_
    obtain ⟨hl2, _⟩ := tup_mem.1 hd
    obtain ⟨e1, e2⟩ := comb_low (N := b.base.toNat ^ k) (d := d) (t := t) (by rw [hl, hl2]) hlt
    have e3 : colT b.base.toNat k (comb (b.base.toNat ^ k) d t) = carT b.base.toNat k t + d.sum := by
      unfold colT
      rw [e1, e2, Nat.add_comm]
    have e4 : carT b.base.toNat (k + 1) (comb (b.base.toNat ^ k) d t) = (carT b.base.toNat k t + d.sum) / b.base.toNat := by
      rw [← e3]
      rfl
    simp only [okT, costT, e1, e2, e3, e4]
    by_cases h1 : okT b may carry k t = true
    · by_cases h2 : colOK may (b.places.toNat - 1 - k) b.cords.length d = true
      · simp only [h1, h2, if_true, Bool.true_and]
      · simp [h1, h2]
    · simp [h1]

end Go.Proofs.Ytkkiipjfbebipaa
