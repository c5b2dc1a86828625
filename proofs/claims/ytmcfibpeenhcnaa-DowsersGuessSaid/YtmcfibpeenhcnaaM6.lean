/- Merged by program: T36. -/
import Derived.Test.YtmcfibpeenhcnaaM5
/- Dug; DowsersGuess. -/
set_option linter.unusedSimpArgs false
set_option linter.unusedVariables false
set_option linter.unnecessarySimpa false
namespace Go.Proofs.Ytmcfibpeenhcnaa
open Go Go.V

/-- A book in which something was found at a place. -/
abbrev dugB (b : Bk) (p : Nat) (k : Int) : Bk := { b with found := b.found.set p k }

theorem flat_ints {l : List Int} : flat (l.map AV.int) = l.map .int := by
  induction l with
  | nil => rfl
  | cons x r ih => simp only [List.map_cons, flat, ih]; rfl
attribute [go_sem] flat_ints

theorem c48 (b : Bk) (h1 : b.found.length ≤ 1000000) (h2 : b.say.length ≤ 1000000) (p : Nat) (hp : p < b.found.length) (k : Int) : Ctr Try.prog 48 [DB b, .int p, .int k] (DB (dugB b p k)) := by
  refine ctr_of_wp hmix Try.func48 m48g rfl ?_
  unfold v48g
  simp -failIfUnchanged (disch := first | omega | (simp <;> omega) | fail) only [go_sem, simprocAttr]
  refine wcall_in hmix Try.func22 m22f rfl ?_
  unfold v22f
  simp -failIfUnchanged (disch := first | omega | (simp <;> omega) | fail) only [go_sem, simprocAttr]
  refine wopsN [K 1 0 0] ?_
  simp -failIfUnchanged (disch := first | omega | (simp <;> omega) | fail) only [go_sem, simprocAttr, chunks_ints, List.length_set, Nat.le_refl]

theorem check_dug {b : Bk} (h : checkB b = true) {p : Nat} {k : Int} (h0 : 0 ≤ k) (h1 : k ≤ b.depth) : checkB (dugB b p k) = true := by
  unfold checkB at *
  simp only [Bool.and_eq_true] at *
  obtain ⟨a1, a2, a3⟩ := h
  refine ⟨?_, ?_, ?_⟩
  · unfold headB at *
    simpa using a1
  · rw [List.all_eq_true] at *
    intro x hx
    rcases List.mem_or_eq_of_mem_set hx with hx | rfl
    · exact a2 x hx
    · exact within_iff.2 ⟨h0, h1⟩
  · rw [List.all_eq_true] at *
    intro i hi
    have := a3 i hi
    unfold sayB at *
    simpa using this

theorem dug_at {b : Bk} {p : Nat} (hp : p < b.found.length) (k : Int) : (dugB b p k).found[p]?.getD default = k := by simp [hp]

/-- What both say of a saying in a dug book. -/
theorem dug_says {b : Bk} (hv : BV b) (hcb : checkB b = true) {n : Nat} (hl : n < b.say.length) {xd : Int} {k : Nat} {xl xh : Int} (hx : b.say[n]? = some ⟨xd, k, xl, xh⟩) (hkl : k < b.found.length) {dep : Int} (h0 : 1 ≤ dep) (h1 : dep ≤ b.depth) :
    hitR (dugB b k dep) n = .tup [.int (if within dep xl xh then 1 else 2), .int 0] ∧ ptsR (dugB b k dep) n = .tup [.int (if within dep xl xh then b.depth - (xh - xl + 1) else - (xh - xl + 1)), .int 0] := by
  have hc := check_dug (p := k) hcb (show 0 ≤ dep by omega) h1
  have hsE : sE (dugB b k dep) n = 0 := ask_of hc (within_iff.2 ⟨by omega, by show (n : Int) ≤ (b.say.length : Int) - 1; omega⟩)
  have hs : syt (dugB b k dep) n = ⟨xd, k, xl, xh⟩ := by show b.say[n]?.getD default = _; rw [hx]; rfl
  have hf := dug_at hkl dep
  have hsx : syt b n = ⟨xd, k, xl, xh⟩ := by show b.say[n]?.getD default = _; rw [hx]; rfl
  have hw := wid_eq hv hl
  have hsy := hv.sy n hl
  have hdp := hv.dp
  rw [hsx] at hw hsy
  dsimp only at hw hsy
  have hh : hitI ⟨xd, k, xl, xh⟩ (dugB b k dep).found = if within dep xl xh then 1 else 2 := by
    have hf' : (b.found.set k dep)[k]?.getD default = dep := hf
    unfold hitI
    simp only [Int.toNat_natCast, hf']
    rw [if_neg (by omega)]
  constructor
  · unfold hitR
    rw [hsE, if_pos rfl, Int.toNat_natCast, hs, hh]
  · unfold ptsR
    have hop : ¬ opn (dugB b k dep) n := by
      unfold opn
      rw [Int.toNat_natCast, hs]
      simp only [Int.toNat_natCast]
      rw [hf]
      omega
    rw [hsE, if_pos rfl, if_pos rfl, if_neg hop, if_neg hop, Int.toNat_natCast, hs]
    unfold ptsOf
    rw [hh, hw]
    cases within dep xl xh with
    | true =>
      simp only [if_true]
      rw [w64_id (by omega)]
    | false =>
      simp only [Bool.false_eq_true, if_false]
      rw [if_neg (by omega), w64_id (by omega), Int.zero_sub, if_pos trivial]

/-- How many of the first depths are within. -/
def rgt (xl xh : Int) (i : Nat) : Int := max 0 (min (i : Int) xh - xl + 1)

theorem c9 (b : Bk) (s : Int) : Ctr Try.prog 9 [DB b, .int s] (.bool true) := by
  refine ctr_of_wp hmix Try.func9 m9 rfl ?_
  unfold v9
  simp -failIfUnchanged (disch := first | omega | (simp <;> omega) | fail) only [go_sem, simprocAttr]
  refine wcall (c25 b) ?_
  cases hr : (!hugeB b && checkB b) with
  | false =>
    simp -failIfUnchanged (disch := first | omega | (simp <;> omega) | fail) only [go_sem, simprocAttr]
    refine wcall c17 ?_
    simp -failIfUnchanged (disch := first | omega | (simp <;> omega) | fail) only [go_sem, simprocAttr]
  | true =>
    simp only [Bool.and_eq_true, Bool.not_eq_true'] at hr
    obtain ⟨h1, h2⟩ := huge_false hr.1
    have hcb := hr.2
    have hv := bv_of hcb
    have hdp := hv.dp
    have hn : b.say.length < 4294967296 := by omega
    simp -failIfUnchanged (disch := first | omega | (simp <;> omega) | fail) only [go_sem, simprocAttr]
    refine wcall (c47 b s) ?_
    rw [w64_id (n := (b.say.length : Int) - 1) (by omega)]
    cases ho : within s 0 ((b.say.length : Int) - 1) with
    | false =>
      simp -failIfUnchanged (disch := first | omega | (simp <;> omega) | fail) only [go_sem, simprocAttr]
      refine wcall c17 ?_
      simp -failIfUnchanged (disch := first | omega | (simp <;> omega) | fail) only [go_sem, simprocAttr]
    | true =>
      have hsi := say_in ho
      obtain ⟨n, rfl⟩ : ∃ n : Nat, s = n := ⟨s.toNat, by omega⟩
      have hl : n < b.say.length := by omega
      obtain ⟨xd, k, xl, xh, hx, hsx, hkl⟩ := say_at hv hl
      have hsy := hv.sy n hl
      have hw := wid_eq hv hl
      rw [hsx] at hsy hw
      dsimp only at hsy hw
      obtain ⟨D, hD⟩ : ∃ D : Nat, b.depth = D := ⟨b.depth.toNat, by omega⟩
      have h51 := c51 ⟨xd, k, xl, xh⟩
      rw [hw] at h51
      obtain ⟨w, hwN⟩ : ∃ w : Nat, xh - xl + 1 = w := ⟨(xh - xl + 1).toNat, by omega⟩
      rw [hwN] at h51
      have hr0 : rgt xl xh 0 = 0 := by unfold rgt; omega
      simp -failIfUnchanged (disch := first | omega | (simp <;> omega) | fail) only [go_sem, simprocAttr, hx]
      refine wp_loop' Nat (fun i => ⟨[(1, .int n), (2, .ptr 2 0), (5, .ptr 5 0), (6, .int (rgt xl xh i * (D : Int) - (i : Int) * (w : Int))), (7, .int (rgt xl xh i)), (8, .int ((i : Int) + 1))], [(5, ⟨[.int xd, .int k, .int xl, .int xh], false⟩), (2, ⟨[.int b.depth, IS b.found, .int b.dow, SL b.say, .int b.pence], false⟩)], [], none⟩) (fun i => i ≤ D) (fun i => D - i) 0 (by simp) (by simp -failIfUnchanged (disch := first | omega | (simp <;> omega) | fail) only [go_sem, simprocAttr]; simp [hr0]) ?_
      intro i hi
      have hi : i ≤ D := hi
      simp -failIfUnchanged (disch := first | omega | (simp <;> omega) | fail) only [go_sem, simprocAttr, hD]
      refine wcond_dec (fun hc => ?_) (fun hc => ?_)
      · have hid : i < D := by omega
        obtain ⟨k1, k2⟩ := dug_says hv hcb hl hx hkl (dep := (i : Int) + 1) (by omega) (by omega)
        have k3 := c49 (dugB b k ((i : Int) + 1)) hn n
        have k4 := c50 (dugB b k ((i : Int) + 1)) hn n
        rw [k1] at k4
        rw [k2] at k3
        have k5 := c48 b (by omega) (by omega) k hkl ((i : Int) + 1)
        have hrb : 0 ≤ rgt xl xh i ∧ rgt xl xh i ≤ 12 := by unfold rgt; omega
        have hb1 : rgt xl xh i * (D : Int) ≤ 12 * 12 := Int.mul_le_mul hrb.2 (by omega) (by omega) (by omega)
        have hb2 : 0 ≤ rgt xl xh i * (D : Int) := Int.mul_nonneg hrb.1 (by omega)
        have hb3 : (i : Int) * (w : Int) ≤ 12 * 12 := Int.mul_le_mul (by omega) (by omega) (by omega) (by omega)
        have hb4 : 0 ≤ (i : Int) * (w : Int) := Int.mul_nonneg (by omega) (by omega)
        have hm : ((i + 1 : Nat) : Int) * (w : Int) = (i : Int) * (w : Int) + w := by rw [Int.natCast_succ, Int.add_mul, Int.one_mul]
        obtain ⟨B, hB⟩ : ∃ B, dugB b k ((i : Int) + 1) = B := ⟨_, rfl⟩
        rw [hB] at k3 k4 k5
        unfold DB at k5
        rw [hD] at k5
        rw [hwN, hD] at k3
        generalize hU : rgt xl xh i * (D : Int) = U at *
        generalize hV : (i : Int) * (w : Int) = V at *
        simp -failIfUnchanged (disch := first | omega | (simp <;> omega) | fail) only [go_sem, simprocAttr]
        refine wcall k5 ?_
        simp -failIfUnchanged (disch := first | omega | (simp <;> omega) | fail) only [go_sem, simprocAttr]
        refine wcall k3 ?_
        simp -failIfUnchanged (disch := first | omega | (simp <;> omega) | fail) only [go_sem, simprocAttr]
        refine wcall k4 ?_
        cases hwi : within ((i : Int) + 1) xl xh with
        | true =>
          rw [within_iff] at hwi
          have er : rgt xl xh (i + 1) = rgt xl xh i + 1 := by unfold rgt; omega
          have em : rgt xl xh (i + 1) * (D : Int) = U + D := by rw [er, Int.add_mul, Int.one_mul, hU]
          have e1 : decide ((D : Int) - (w : Int) < 0 - (D : Int)) = false := decide_eq_false (by omega)
          have e2 : decide ((D : Int) < (D : Int) - (w : Int)) = false := decide_eq_false (by omega)
          have e3 : decide (0 ≤ (D : Int) - (w : Int)) = true := decide_eq_true (by omega)
          simp -failIfUnchanged (disch := first | omega | (simp <;> omega) | fail) only [go_sem, simprocAttr, e1, e2, e3, eq_self]
          refine ⟨i + 1, by dsimp only; omega, by dsimp only; omega, ?_⟩
          dsimp only
          rw [em, er, hm]
          simp -failIfUnchanged (disch := first | omega | (simp <;> omega) | fail) only [go_sem, simprocAttr]
          try simp
          try omega
        | false =>
          have hwi' : ¬ (xl ≤ (i : Int) + 1 ∧ (i : Int) + 1 ≤ xh) := by
            rw [← within_iff, hwi]
            simp
          have er : rgt xl xh (i + 1) = rgt xl xh i := by unfold rgt; omega
          have em : rgt xl xh (i + 1) * (D : Int) = U := by rw [er, hU]
          have e1 : decide (-(w : Int) < 0 - (D : Int)) = false := decide_eq_false (by omega)
          have e2 : decide ((D : Int) < -(w : Int)) = false := decide_eq_false (by omega)
          have e3 : decide (0 ≤ -(w : Int)) = false := decide_eq_false (by omega)
          simp -failIfUnchanged (disch := first | omega | (simp <;> omega) | fail) only [go_sem, simprocAttr, e1, e2, e3, eq_self]
          refine ⟨i + 1, by dsimp only; omega, by dsimp only; omega, ?_⟩
          dsimp only
          rw [em, er, hm]
          simp -failIfUnchanged (disch := first | omega | (simp <;> omega) | fail) only [go_sem, simprocAttr]
          try simp
          try omega
      · have e : i = D := by omega
        subst e
        have er : rgt xl xh i = w := by unfold rgt; omega
        have e0 : rgt xl xh i * (i : Int) - (i : Int) * (w : Int) = 0 := by rw [er, Int.mul_comm]; omega
        rw [e0, er]
        simp -failIfUnchanged (disch := first | omega | (simp <;> omega) | fail) only [go_sem, simprocAttr, eq_self]
        refine wcall h51 ?_
        simp -failIfUnchanged (disch := first | omega | (simp <;> omega) | fail) only [go_sem, simprocAttr, eq_self]
        refine wcall c17 ?_
        simp -failIfUnchanged (disch := first | omega | (simp <;> omega) | fail) only [go_sem, simprocAttr]

end Go.Proofs.Ytmcfibpeenhcnaa
