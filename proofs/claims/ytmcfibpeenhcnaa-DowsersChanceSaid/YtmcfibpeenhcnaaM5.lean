/- Merged by program: T4, T5, T6, T7, T8, T9, T10, T11, T12, T13, T14, T15, T16, T17, T18, T19, T20, T21, T22, T23, T24, T25, T26, T27, T28, T29, T30, T31, T32, T33. -/
import Derived.Test.YtmcfibpeenhcnaaM4
import Derived.Test.YtmcfibpeenhcnaaChecked
/- Check. -/
set_option linter.unusedSimpArgs false
set_option linter.unusedVariables false
set_option linter.unnecessarySimpa false
namespace Go.Proofs.Ytmcfibpeenhcnaa
open Go Go.V

def headB (b : Bk) : Bool := within b.depth 1 12 && (decide ((b.found.length : Int) ≤ 6) && (within b.dow 0 4 && within b.pence 0 999))
def sayB (b : Bk) (i : Nat) : Bool := within (b.say[i]?.getD default).d 0 (w64 (b.dow - 1)) && (within (b.say[i]?.getD default).p 0 (w64 ((b.found.length : Int) - 1)) &&
  (within (b.say[i]?.getD default).hi 1 b.depth && (within (b.say[i]?.getD default).lo 1 (b.say[i]?.getD default).hi && (decide (i = 0) || bef (b.say[i - 1]?.getD default) (b.say[i]?.getD default)))))
def checkB (b : Bk) : Bool := headB b && ((b.found.all fun n => within n 0 b.depth) && (List.range b.say.length).all (sayB b))
def errB (b : Bk) : Int := if checkB b then 0 else 40

theorem err_head {b : Bk} (h : headB b = false) : errB b = 40 := by simp [errB, checkB, h]
theorem err_found {b : Bk} {i : Nat} (hi : i < b.found.length) (h : within (b.found[i]?.getD default) 0 b.depth = false) : errB b = 40 := by
  have : (b.found.all fun n => within n 0 b.depth) = false := List.all_eq_false.2 ⟨b.found[i], List.getElem_mem hi, by
    rw [List.getElem?_eq_getElem hi] at h
    simpa using h⟩
  simp [errB, checkB, this]
theorem err_say {b : Bk} {i : Nat} (hi : i < b.say.length) (h : sayB b i = false) : errB b = 40 := by
  have : (List.range b.say.length).all (sayB b) = false := List.all_eq_false.2 ⟨i, List.mem_range.2 hi, by rw [h]; simp⟩
  simp [errB, checkB, this]

theorem c52 (b : Bk) (hn : b.say.length < 4294967296) : Ctr Try.prog 52 [DB b] (.int (errB b)) := by
  refine ctr_of_wp hmix Try.func52 m52 rfl ?_
  unfold v52
  simp -failIfUnchanged (disch := first | omega | (simp <;> omega) | fail) only [go_sem, simprocAttr]
  refine wcall (c80 _ _ _) ?_
  cases h1 : within b.depth 1 12 with
  | false =>
    rw [err_head (by simp [headB, h1])]
    simp -failIfUnchanged (disch := first | omega | (simp <;> omega) | fail) only [go_sem, simprocAttr]
  | true =>
    simp -failIfUnchanged (disch := first | omega | (simp <;> omega) | fail) only [go_sem, simprocAttr]
    by_cases h2 : (b.found.length : Int) ≤ 6
    · have h2' : decide ((6 : Int) < b.found.length) = false := decide_eq_false (by omega)
      simp -failIfUnchanged (disch := first | omega | (simp <;> omega) | fail) only [go_sem, simprocAttr, h2']
      refine wcall (c80 _ _ _) ?_
      cases h3 : within b.dow 0 4 with
      | false =>
        rw [err_head (by simp [headB, h3])]
        simp -failIfUnchanged (disch := first | omega | (simp <;> omega) | fail) only [go_sem, simprocAttr]
      | true =>
        simp -failIfUnchanged (disch := first | omega | (simp <;> omega) | fail) only [go_sem, simprocAttr]
        refine wcall (c80 _ _ _) ?_
        cases h4 : within b.pence 0 999 with
        | false =>
          rw [err_head (by simp [headB, h4])]
          simp -failIfUnchanged (disch := first | omega | (simp <;> omega) | fail) only [go_sem, simprocAttr]
        | true =>
          have hh : headB b = true := by simp [headB, h1, h2, h3, h4]
          have hfl : b.found.length ≤ 6 := by omega
          simp -failIfUnchanged (disch := first | omega | (simp <;> omega) | fail) only [go_sem, simprocAttr]
          refine wp_loop' Nat (fun i => ⟨[(1, .ptr 1 0), (30, IS b.found), (31, .int b.found.length), (32, .int i)], [(1, ⟨[.int b.depth, IS b.found, .int b.dow, SL b.say, .int b.pence], false⟩)], [], none⟩) (fun i => i ≤ b.found.length ∧ ∀ j, j < i → within (b.found[j]?.getD default) 0 b.depth = true) (fun i => b.found.length - i) 0 (by simp) (by simp -failIfUnchanged (disch := first | omega | (simp <;> omega) | fail) only [go_sem, simprocAttr]; try simp) ?_
          rintro i ⟨hi, hpre⟩
          simp -failIfUnchanged (disch := first | omega | (simp <;> omega) | fail) only [go_sem, simprocAttr]
          refine wcond_dec (fun hc => ?_) (fun hc => ?_)
          · have hlt : i < b.found.length := by omega
            simp -failIfUnchanged (disch := first | omega | (simp <;> omega) | fail) only [go_sem, simprocAttr]
            refine wcall (c80 _ _ _) ?_
            cases h5 : within (b.found[i]?.getD default) 0 b.depth with
            | false =>
              rw [err_found hlt h5]
              simp -failIfUnchanged (disch := first | omega | (simp <;> omega) | fail) only [go_sem, simprocAttr]
            | true =>
              simp -failIfUnchanged (disch := first | omega | (simp <;> omega) | fail) only [go_sem, simprocAttr]
              refine ⟨i + 1, ⟨by omega, fun j hj => ?_⟩, by dsimp only; omega, ?_⟩
              · rcases Nat.lt_or_ge j i with h6 | h6
                · exact hpre j h6
                · obtain rfl : j = i := by omega
                  exact h5
              · simp -failIfUnchanged (disch := first | omega | (simp <;> omega) | fail) only [go_sem, simprocAttr]
                try simp
          · have e : i = b.found.length := by omega
            subst e
            have hf : (b.found.all fun n => within n 0 b.depth) = true := List.all_eq_true.2 fun x hx => by
              obtain ⟨j, hj, rfl⟩ := List.getElem_of_mem hx
              have := hpre j hj
              rw [List.getElem?_eq_getElem hj] at this
              exact this
            simp -failIfUnchanged (disch := first | omega | (simp <;> omega) | fail) only [go_sem, simprocAttr]
            refine wp_loop' Nat (fun i => ⟨[(1, .ptr 1 0), (43, SL b.say), (44, .int b.say.length), (45, .int i)], [(1, ⟨[.int b.depth, IS b.found, .int b.dow, SL b.say, .int b.pence], false⟩)], [], none⟩) (fun i => i ≤ b.say.length ∧ ∀ j, j < i → sayB b j = true) (fun i => b.say.length - i) 0 (by simp) (by simp -failIfUnchanged (disch := first | omega | (simp <;> omega) | fail) only [go_sem, simprocAttr]; try simp) ?_
            rintro i ⟨hi, hpre⟩
            simp -failIfUnchanged (disch := first | omega | (simp <;> omega) | fail) only [go_sem, simprocAttr]
            refine wcond_dec (fun hc => ?_) (fun hc => ?_)
            · have hlt : i < b.say.length := by omega
              obtain ⟨x, hx⟩ : ∃ x, b.say[i]? = some x := ⟨b.say[i], by simp [hlt]⟩
              have nope : ∀ q, sayB b i = q → q = false → errB b = 40 := fun q h1 h2 => err_say hlt (by rw [h1, h2])
              have hsb : sayB b i = (within x.d 0 (w64 (b.dow - 1)) && (within x.p 0 (w64 ((b.found.length : Int) - 1)) && (within x.hi 1 b.depth && (within x.lo 1 x.hi && (decide (i = 0) || bef (b.say[i - 1]?.getD default) x))))) := by
                unfold sayB
                rw [hx]
                rfl
              rw [show w64 ((b.found.length : Int) - 1) = (b.found.length : Int) - 1 from w64_id (by omega)] at hsb
              simp -failIfUnchanged (disch := first | omega | (simp <;> omega) | fail) only [go_sem, simprocAttr, hx]
              refine wcall (c80 _ _ _) ?_
              cases k1 : within x.d 0 (w64 (b.dow - 1)) with
              | false =>
                rw [nope _ hsb (by rw [k1]; rfl)]
                simp -failIfUnchanged (disch := first | omega | (simp <;> omega) | fail) only [go_sem, simprocAttr]
              | true =>
                simp -failIfUnchanged (disch := first | omega | (simp <;> omega) | fail) only [go_sem, simprocAttr]
                refine wcall (c80 _ _ _) ?_
                cases k2 : within x.p 0 ((b.found.length : Int) - 1) with
                | false =>
                  rw [nope _ hsb (by rw [k1, k2]; rfl)]
                  simp -failIfUnchanged (disch := first | omega | (simp <;> omega) | fail) only [go_sem, simprocAttr]
                | true =>
                  simp -failIfUnchanged (disch := first | omega | (simp <;> omega) | fail) only [go_sem, simprocAttr]
                  refine wcall (c80 _ _ _) ?_
                  cases k3 : within x.hi 1 b.depth with
                  | false =>
                    rw [nope _ hsb (by rw [k1, k2, k3]; rfl)]
                    simp -failIfUnchanged (disch := first | omega | (simp <;> omega) | fail) only [go_sem, simprocAttr]
                  | true =>
                    simp -failIfUnchanged (disch := first | omega | (simp <;> omega) | fail) only [go_sem, simprocAttr]
                    refine wcall (c80 _ _ _) ?_
                    cases k4 : within x.lo 1 x.hi with
                    | false =>
                      rw [nope _ hsb (by rw [k1, k2, k3, k4]; rfl)]
                      simp -failIfUnchanged (disch := first | omega | (simp <;> omega) | fail) only [go_sem, simprocAttr]
                    | true =>
                      rw [k1, k2, k3, k4, Bool.true_and, Bool.true_and, Bool.true_and, Bool.true_and] at hsb
                      simp -failIfUnchanged (disch := first | omega | (simp <;> omega) | fail) only [go_sem, simprocAttr]
                      refine WGd_bool (fun h3 => ?_) (fun h3 => ?_)
                      · have hpos : 0 < i := by simpa using h3
                        obtain ⟨k, rfl⟩ : ∃ k, i = k + 1 := ⟨i - 1, by omega⟩
                        have e1 : (((k + 1 : Nat) : Int) - 1) = (k : Nat) := by omega
                        obtain ⟨y, hy⟩ : ∃ y, b.say[k]? = some y := ⟨b.say[k], by simp⟩
                        rw [show decide (k + 1 = 0) = false from decide_eq_false (by omega), Bool.false_or, Nat.add_sub_cancel, hy, Option.getD_some] at hsb
                        have hcb := cmp_bef y x
                        simp -failIfUnchanged (disch := first | omega | (simp <;> omega) | fail) only [go_sem, simprocAttr, h3, e1, hy, Int.toNat_natCast]
                        refine wcall (c86 _ _) ?_
                        cases hbe : bef y x with
                        | false =>
                          rw [nope _ hsb hbe]
                          rw [hbe] at hcb
                          simp -failIfUnchanged (disch := first | omega | (simp <;> omega) | fail) only [go_sem, simprocAttr, hcb, h3]
                        | true =>
                          rw [hbe] at hcb hsb
                          simp -failIfUnchanged (disch := first | omega | (simp <;> omega) | fail) only [go_sem, simprocAttr, hcb, h3]
                          refine ⟨k + 2, ⟨by omega, fun j hj => ?_⟩, by dsimp only; omega, ?_⟩
                          · rcases Nat.lt_or_ge j (k + 1) with h6 | h6
                            · exact hpre j h6
                            · obtain rfl : j = k + 1 := by omega
                              exact hsb
                          · simp -failIfUnchanged (disch := first | omega | (simp <;> omega) | fail) only [go_sem, simprocAttr]
                            try simp
                            try omega
                      · have h0 : i = 0 := by
                          have : ¬ (0 : Int) < i := by simpa using h3
                          omega
                        subst h0
                        have hs0 : sayB b 0 = true := by rw [hsb]; rfl
                        simp -failIfUnchanged (disch := first | omega | (simp <;> omega) | fail) only [go_sem, simprocAttr, h3]
                        refine ⟨1, ⟨by omega, fun j hj => ?_⟩, by dsimp only; omega, ?_⟩
                        · obtain rfl : j = 0 := by omega
                          exact hs0
                        · simp -failIfUnchanged (disch := first | omega | (simp <;> omega) | fail) only [go_sem, simprocAttr]
                          try simp
            · have e : i = b.say.length := by omega
              subst e
              have hs : (List.range b.say.length).all (sayB b) = true := List.all_eq_true.2 fun j hj => hpre j (List.mem_range.1 hj)
              have : errB b = 0 := by simp [errB, checkB, hh, hf, hs]
              rw [this]
              simp -failIfUnchanged (disch := first | omega | (simp <;> omega) | fail) only [go_sem, simprocAttr]
    · have h2' : decide ((6 : Int) < b.found.length) = true := decide_eq_true (by omega)
      rw [err_head (by simp [headB, h2])]
      simp -failIfUnchanged (disch := first | omega | (simp <;> omega) | fail) only [go_sem, simprocAttr, h2']

end Go.Proofs.Ytmcfibpeenhcnaa


/- open, points, ask. -/
set_option linter.unusedSimpArgs false
set_option linter.unusedVariables false
set_option linter.unnecessarySimpa false
namespace Go.Proofs.Ytmcfibpeenhcnaa
open Go Go.V

def askE (b : Bk) (is : Bool) : Int := if checkB b then if is then 0 else 1 else 40
def opnR (b : Bk) (is : Bool) : AV := .tup [if askE b is = 0 then OB b else .nilp, .int (askE b is)]

theorem c66 (b : Bk) (is : Bool) (hn : b.say.length < 4294967296) : Ctr Try.prog 66 [DB b, .bool is] (opnR b is) := by
  refine ctr_of_wp hmix Try.func66 m66 rfl ?_
  unfold v66 opnR askE
  simp -failIfUnchanged (disch := first | omega | (simp <;> omega) | fail) only [go_sem, simprocAttr]
  refine wcall (c52 b hn) ?_
  unfold errB
  cases checkB b with
  | false => simp -failIfUnchanged (disch := first | omega | (simp <;> omega) | fail) only [go_sem, simprocAttr]; try simp
  | true =>
    cases is with
    | false => simp -failIfUnchanged (disch := first | omega | (simp <;> omega) | fail) only [go_sem, simprocAttr]; try simp
    | true => simp -failIfUnchanged (disch := first | omega | (simp <;> omega) | fail) only [go_sem, simprocAttr]; try simp

/-- The points of a saying, if water is found there. -/
def ptsI (b : Bk) (s : Sy) (found : Int) : Int := if within found s.lo s.hi then w64 (b.depth - wid s) else w64 (0 - wid s)

theorem c85 (b : Bk) (s : Sy) (f : Int) : Ctr Try.prog 85 [OB b, SY s, .int f] (.int (ptsI b s f)) := by
  refine ctr_of_wp hmix Try.func85 m85 rfl ?_
  unfold v85 ptsI
  simp -failIfUnchanged (disch := first | omega | (simp <;> omega) | fail) only [go_sem, simprocAttr]
  refine wcall (c80 _ _ _) ?_
  cases within f s.lo s.hi with
  | false =>
    simp -failIfUnchanged (disch := first | omega | (simp <;> omega) | fail) only [go_sem, simprocAttr]
    refine wcall (c94 s) ?_
    simp -failIfUnchanged (disch := first | omega | (simp <;> omega) | fail) only [go_sem, simprocAttr]
    try simp
  | true =>
    simp -failIfUnchanged (disch := first | omega | (simp <;> omega) | fail) only [go_sem, simprocAttr]
    refine wcall (c94 s) ?_
    simp -failIfUnchanged (disch := first | omega | (simp <;> omega) | fail) only [go_sem, simprocAttr]
    try simp

end Go.Proofs.Ytmcfibpeenhcnaa


/- HitOf, PointsOf. -/
set_option linter.unusedSimpArgs false
set_option linter.unusedVariables false
set_option linter.unnecessarySimpa false
namespace Go.Proofs.Ytmcfibpeenhcnaa
open Go Go.V

/-- What is known of a saying: 3 it is open, 1 right, 2 wrong. -/
def hitI (s : Sy) (found : List Int) : Int := if found[s.p.toNat]?.getD default = 0 then 3 else if within (found[s.p.toNat]?.getD default) s.lo s.hi then 1 else 2
def ptsOf (b : Bk) (s : Sy) (found : List Int) : Int := if hitI s found = 1 then w64 (b.depth - wid s) else if hitI s found = 2 then w64 (0 - wid s) else 0

theorem c73 (s : Sy) (f : List Int) (h0 : 0 ≤ s.p) (h1 : s.p < f.length) : Ctr Try.prog 73 [SY s, IS f] (.int (hitI s f)) := by
  refine ctr_of_wp hmix Try.func73 m73 rfl ?_
  unfold v73 hitI
  obtain ⟨k, hk⟩ : ∃ k : Nat, s.p = k := ⟨s.p.toNat, by omega⟩
  rw [hk] at h1 ⊢
  rw [Int.toNat_natCast]
  simp -failIfUnchanged (disch := first | omega | (simp <;> omega) | fail) only [go_sem, simprocAttr, hk]
  refine wcond_dec (fun h => ?_) (fun h => ?_)
  · simp -failIfUnchanged (disch := first | omega | (simp <;> omega) | fail) only [go_sem, simprocAttr, h]
  · simp -failIfUnchanged (disch := first | omega | (simp <;> omega) | fail) only [go_sem, simprocAttr, h]
    refine wcall (c64 _ _ _) ?_
    cases within (f[k]?.getD default) s.lo s.hi with
    | false => simp -failIfUnchanged (disch := first | omega | (simp <;> omega) | fail) only [go_sem, simprocAttr]; try simp
    | true => simp -failIfUnchanged (disch := first | omega | (simp <;> omega) | fail) only [go_sem, simprocAttr]; try simp

theorem c77 (b : Bk) (s : Sy) (f : List Int) (h0 : 0 ≤ s.p) (h1 : s.p < f.length) : Ctr Try.prog 77 [DB b, SY s, IS f] (.int (ptsOf b s f)) := by
  refine ctr_of_wp hmix Try.func77 m77 rfl ?_
  unfold v77 ptsOf
  simp -failIfUnchanged (disch := first | omega | (simp <;> omega) | fail) only [go_sem, simprocAttr]
  refine wcall (c73 s f h0 h1) ?_
  simp -failIfUnchanged (disch := first | omega | (simp <;> omega) | fail) only [go_sem, simprocAttr]
  refine wcond_dec (fun h => ?_) (fun h => ?_)
  · simp -failIfUnchanged (disch := first | omega | (simp <;> omega) | fail) only [go_sem, simprocAttr, h]
    refine wcall (c51 s) ?_
    simp -failIfUnchanged (disch := first | omega | (simp <;> omega) | fail) only [go_sem, simprocAttr]
    try simp
  · simp -failIfUnchanged (disch := first | omega | (simp <;> omega) | fail) only [go_sem, simprocAttr, h]
    refine wcond_dec (fun h2 => ?_) (fun h2 => ?_)
    · simp -failIfUnchanged (disch := first | omega | (simp <;> omega) | fail) only [go_sem, simprocAttr, h2]
      refine wcall (c51 s) ?_
      simp -failIfUnchanged (disch := first | omega | (simp <;> omega) | fail) only [go_sem, simprocAttr]
      try simp
    · simp -failIfUnchanged (disch := first | omega | (simp <;> omega) | fail) only [go_sem, simprocAttr, h2]
      try simp

end Go.Proofs.Ytmcfibpeenhcnaa


/- Check of the document. -/
set_option linter.unusedSimpArgs false
set_option linter.unusedVariables false
set_option linter.unnecessarySimpa false
namespace Go.Proofs.Ytmcfibpeenhcnaa
open Go Go.V

theorem span_alike (lo hi d : Int) (r : Bool) : (within lo 1 d && (within hi lo d && r)) = (within hi 1 d && (within lo 1 hi && r)) := by
  cases r with
  | false => simp
  | true =>
    rw [Bool.and_true, Bool.and_true, Bool.eq_iff_iff]
    simp only [Bool.and_eq_true, within_iff]
    omega

theorem c53 (b : Bk) (hn : b.say.length < 4294967296) : Ctr Try.prog 53 [DB b] (.int (errB b)) := by
  refine ctr_of_wp hmix Try.func53 m53 rfl ?_
  unfold v53
  simp -failIfUnchanged (disch := first | omega | (simp <;> omega) | fail) only [go_sem, simprocAttr]
  refine wcall (c64 _ _ _) ?_
  cases h1 : within b.depth 1 12 with
  | false =>
    rw [err_head (by simp [headB, h1])]
    simp -failIfUnchanged (disch := first | omega | (simp <;> omega) | fail) only [go_sem, simprocAttr]
  | true =>
    simp -failIfUnchanged (disch := first | omega | (simp <;> omega) | fail) only [go_sem, simprocAttr]
    by_cases h2 : (b.found.length : Int) ≤ 6
    · have h2' : decide ((6 : Int) < b.found.length) = false := decide_eq_false (by omega)
      simp -failIfUnchanged (disch := first | omega | (simp <;> omega) | fail) only [go_sem, simprocAttr, h2']
      refine wcall (c64 _ _ _) ?_
      cases h3 : within b.dow 0 4 with
      | false =>
        rw [err_head (by simp [headB, h3])]
        simp -failIfUnchanged (disch := first | omega | (simp <;> omega) | fail) only [go_sem, simprocAttr]
      | true =>
        simp -failIfUnchanged (disch := first | omega | (simp <;> omega) | fail) only [go_sem, simprocAttr]
        refine wcall (c64 _ _ _) ?_
        cases h4 : within b.pence 0 999 with
        | false =>
          rw [err_head (by simp [headB, h4])]
          simp -failIfUnchanged (disch := first | omega | (simp <;> omega) | fail) only [go_sem, simprocAttr]
        | true =>
          have hh : headB b = true := by simp [headB, h1, h2, h3, h4]
          have hfl : b.found.length ≤ 6 := by omega
          simp -failIfUnchanged (disch := first | omega | (simp <;> omega) | fail) only [go_sem, simprocAttr]
          refine wp_loop' Nat (fun i => ⟨[(1, .ptr 1 0), (3, .int i)], [(1, ⟨[.int b.depth, IS b.found, .int b.dow, SL b.say, .int b.pence], false⟩)], [], none⟩) (fun i => i ≤ b.found.length ∧ ∀ j, j < i → within (b.found[j]?.getD default) 0 b.depth = true) (fun i => b.found.length - i) 0 (by simp) (by simp -failIfUnchanged (disch := first | omega | (simp <;> omega) | fail) only [go_sem, simprocAttr]; try simp) ?_
          rintro i ⟨hi, hpre⟩
          simp -failIfUnchanged (disch := first | omega | (simp <;> omega) | fail) only [go_sem, simprocAttr]
          refine wcond_dec (fun hc => ?_) (fun hc => ?_)
          · have hlt : i < b.found.length := by omega
            simp -failIfUnchanged (disch := first | omega | (simp <;> omega) | fail) only [go_sem, simprocAttr]
            refine wcall (c64 _ _ _) ?_
            cases h5 : within (b.found[i]?.getD default) 0 b.depth with
            | false =>
              rw [err_found hlt h5]
              simp -failIfUnchanged (disch := first | omega | (simp <;> omega) | fail) only [go_sem, simprocAttr]
            | true =>
              simp -failIfUnchanged (disch := first | omega | (simp <;> omega) | fail) only [go_sem, simprocAttr]
              refine ⟨i + 1, ⟨by omega, fun j hj => ?_⟩, by dsimp only; omega, ?_⟩
              · rcases Nat.lt_or_ge j i with h6 | h6
                · exact hpre j h6
                · obtain rfl : j = i := by omega
                  exact h5
              · simp -failIfUnchanged (disch := first | omega | (simp <;> omega) | fail) only [go_sem, simprocAttr]
                try simp
          · have e : i = b.found.length := by omega
            subst e
            have hf : (b.found.all fun n => within n 0 b.depth) = true := List.all_eq_true.2 fun x hx => by
              obtain ⟨j, hj, rfl⟩ := List.getElem_of_mem hx
              have := hpre j hj
              rw [List.getElem?_eq_getElem hj] at this
              exact this
            simp -failIfUnchanged (disch := first | omega | (simp <;> omega) | fail) only [go_sem, simprocAttr]
            refine wp_loop' Nat (fun i => ⟨[(1, .ptr 1 0), (4, .int i)], [(1, ⟨[.int b.depth, IS b.found, .int b.dow, SL b.say, .int b.pence], false⟩)], [], none⟩) (fun i => i ≤ b.say.length ∧ ∀ j, j < i → sayB b j = true) (fun i => b.say.length - i) 0 (by simp) (by simp -failIfUnchanged (disch := first | omega | (simp <;> omega) | fail) only [go_sem, simprocAttr]; try simp) ?_
            rintro i ⟨hi, hpre⟩
            simp -failIfUnchanged (disch := first | omega | (simp <;> omega) | fail) only [go_sem, simprocAttr]
            refine wcond_dec (fun hc => ?_) (fun hc => ?_)
            · have hlt : i < b.say.length := by omega
              obtain ⟨x, hx⟩ : ∃ x, b.say[i]? = some x := ⟨b.say[i], by simp [hlt]⟩
              have nope : ∀ q, sayB b i = q → q = false → errB b = 40 := fun q h1 h2 => err_say hlt (by rw [h1, h2])
              have hsb : sayB b i = (within x.d 0 (w64 (b.dow - 1)) && (within x.p 0 (w64 ((b.found.length : Int) - 1)) && (within x.lo 1 b.depth && (within x.hi x.lo b.depth && (decide (i = 0) || bef (b.say[i - 1]?.getD default) x))))) := by
                rw [span_alike]
                unfold sayB
                rw [hx]
                rfl
              rw [show w64 ((b.found.length : Int) - 1) = (b.found.length : Int) - 1 from w64_id (by omega)] at hsb
              have c56' := c56 b x.p
              rw [show w64 ((b.found.length : Int) - 1) = (b.found.length : Int) - 1 from w64_id (by omega)] at c56'
              simp -failIfUnchanged (disch := first | omega | (simp <;> omega) | fail) only [go_sem, simprocAttr, hx]
              refine wcall (c16 b x.d) ?_
              cases k1 : within x.d 0 (w64 (b.dow - 1)) with
              | false =>
                rw [nope _ hsb (by rw [k1]; rfl)]
                simp -failIfUnchanged (disch := first | omega | (simp <;> omega) | fail) only [go_sem, simprocAttr]
              | true =>
                simp -failIfUnchanged (disch := first | omega | (simp <;> omega) | fail) only [go_sem, simprocAttr]
                refine wcall c56' ?_
                cases k2 : within x.p 0 ((b.found.length : Int) - 1) with
                | false =>
                  rw [nope _ hsb (by rw [k1, k2]; rfl)]
                  simp -failIfUnchanged (disch := first | omega | (simp <;> omega) | fail) only [go_sem, simprocAttr]
                | true =>
                  simp -failIfUnchanged (disch := first | omega | (simp <;> omega) | fail) only [go_sem, simprocAttr]
                  refine wcall (c64 _ _ _) ?_
                  cases k3 : within x.lo 1 b.depth with
                  | false =>
                    rw [nope _ hsb (by rw [k1, k2, k3]; rfl)]
                    simp -failIfUnchanged (disch := first | omega | (simp <;> omega) | fail) only [go_sem, simprocAttr]
                  | true =>
                    simp -failIfUnchanged (disch := first | omega | (simp <;> omega) | fail) only [go_sem, simprocAttr]
                    refine wcall (c64 _ _ _) ?_
                    cases k4 : within x.hi x.lo b.depth with
                    | false =>
                      rw [nope _ hsb (by rw [k1, k2, k3, k4]; rfl)]
                      simp -failIfUnchanged (disch := first | omega | (simp <;> omega) | fail) only [go_sem, simprocAttr]
                    | true =>
                      rw [k1, k2, k3, k4, Bool.true_and, Bool.true_and, Bool.true_and, Bool.true_and] at hsb
                      simp -failIfUnchanged (disch := first | omega | (simp <;> omega) | fail) only [go_sem, simprocAttr]
                      refine WGd_bool (fun h3 => ?_) (fun h3 => ?_)
                      · have hpos : 0 < i := by simpa using h3
                        obtain ⟨k, rfl⟩ : ∃ k, i = k + 1 := ⟨i - 1, by omega⟩
                        have e1 : (((k + 1 : Nat) : Int) - 1) = (k : Nat) := by omega
                        obtain ⟨y, hy⟩ : ∃ y, b.say[k]? = some y := ⟨b.say[k], by simp⟩
                        rw [show decide (k + 1 = 0) = false from decide_eq_false (by omega), Bool.false_or, Nat.add_sub_cancel, hy, Option.getD_some] at hsb
                        simp -failIfUnchanged (disch := first | omega | (simp <;> omega) | fail) only [go_sem, simprocAttr, h3, e1, hy, Int.toNat_natCast]
                        refine wcall (c74 y x) ?_
                        cases hbe : bef y x with
                        | false =>
                          rw [nope _ hsb hbe]
                          simp -failIfUnchanged (disch := first | omega | (simp <;> omega) | fail) only [go_sem, simprocAttr, h3]
                        | true =>
                          rw [hbe] at hsb
                          simp -failIfUnchanged (disch := first | omega | (simp <;> omega) | fail) only [go_sem, simprocAttr, h3]
                          refine ⟨k + 2, ⟨by omega, fun j hj => ?_⟩, by dsimp only; omega, ?_⟩
                          · rcases Nat.lt_or_ge j (k + 1) with h6 | h6
                            · exact hpre j h6
                            · obtain rfl : j = k + 1 := by omega
                              exact hsb
                          · simp -failIfUnchanged (disch := first | omega | (simp <;> omega) | fail) only [go_sem, simprocAttr]
                            try simp
                            try omega
                      · have h0 : i = 0 := by
                          have : ¬ (0 : Int) < i := by simpa using h3
                          omega
                        subst h0
                        have hs0 : sayB b 0 = true := by rw [hsb]; rfl
                        simp -failIfUnchanged (disch := first | omega | (simp <;> omega) | fail) only [go_sem, simprocAttr, h3]
                        refine ⟨1, ⟨by omega, fun j hj => ?_⟩, by dsimp only; omega, ?_⟩
                        · obtain rfl : j = 0 := by omega
                          exact hs0
                        · simp -failIfUnchanged (disch := first | omega | (simp <;> omega) | fail) only [go_sem, simprocAttr]
                          try simp
            · have e : i = b.say.length := by omega
              subst e
              have hs : (List.range b.say.length).all (sayB b) = true := List.all_eq_true.2 fun j hj => hpre j (List.mem_range.1 hj)
              have : errB b = 0 := by simp [errB, checkB, hh, hf, hs]
              rw [this]
              simp -failIfUnchanged (disch := first | omega | (simp <;> omega) | fail) only [go_sem, simprocAttr]
    · have h2' : decide ((6 : Int) < b.found.length) = true := decide_eq_true (by omega)
      rw [err_head (by simp [headB, h2])]
      simp -failIfUnchanged (disch := first | omega | (simp <;> omega) | fail) only [go_sem, simprocAttr, h2']

theorem c78 (b : Bk) (is : Bool) (hn : b.say.length < 4294967296) : Ctr Try.prog 78 [DB b, .bool is] (.int (askE b is)) := by
  refine ctr_of_wp hmix Try.func78 m78 rfl ?_
  unfold v78 askE
  simp -failIfUnchanged (disch := first | omega | (simp <;> omega) | fail) only [go_sem, simprocAttr]
  refine wcall (c53 b hn) ?_
  unfold errB
  cases checkB b with
  | false => simp -failIfUnchanged (disch := first | omega | (simp <;> omega) | fail) only [go_sem, simprocAttr]; try simp
  | true =>
    cases is with
    | false => simp -failIfUnchanged (disch := first | omega | (simp <;> omega) | fail) only [go_sem, simprocAttr]; try simp
    | true => simp -failIfUnchanged (disch := first | omega | (simp <;> omega) | fail) only [go_sem, simprocAttr]; try simp

end Go.Proofs.Ytmcfibpeenhcnaa


/- Valid books. -/
set_option linter.unusedSimpArgs false
set_option linter.unusedVariables false
set_option linter.unnecessarySimpa false
namespace Go.Proofs.Ytmcfibpeenhcnaa
open Go Go.V

abbrev syt (b : Bk) (i : Nat) : Sy := b.say[i]?.getD default

structure BV (b : Bk) : Prop where
  dp : 1 ≤ b.depth ∧ b.depth ≤ 12
  fl : b.found.length ≤ 6
  dw : 0 ≤ b.dow ∧ b.dow ≤ 4
  pn : 0 ≤ b.pence ∧ b.pence ≤ 999
  fo : ∀ i, i < b.found.length → 0 ≤ b.found[i]?.getD default ∧ b.found[i]?.getD default ≤ b.depth
  sy : ∀ i, i < b.say.length → (0 ≤ (syt b i).d ∧ (syt b i).d < b.dow) ∧ (0 ≤ (syt b i).p ∧ (syt b i).p < b.found.length) ∧ 1 ≤ (syt b i).lo ∧ (syt b i).lo ≤ (syt b i).hi ∧ (syt b i).hi ≤ b.depth
  od : ∀ i, i + 1 < b.say.length → bef (syt b i) (syt b (i + 1)) = true

theorem bv_of {b : Bk} (h : checkB b = true) : BV b := by
  simp only [checkB, headB, Bool.and_eq_true, within_iff, decide_eq_true_eq, List.all_eq_true, List.mem_range] at h
  obtain ⟨⟨h1, h2, h3, h4⟩, h5, h6⟩ := h
  have hd : w64 (b.dow - 1) = b.dow - 1 := w64_id (by omega)
  have hf : w64 ((b.found.length : Int) - 1) = (b.found.length : Int) - 1 := w64_id (by omega)
  have hs : ∀ i, i < b.say.length → ((0 ≤ (syt b i).d ∧ (syt b i).d ≤ b.dow - 1) ∧ (0 ≤ (syt b i).p ∧ (syt b i).p ≤ (b.found.length : Int) - 1) ∧ (1 ≤ (syt b i).hi ∧ (syt b i).hi ≤ b.depth) ∧ (1 ≤ (syt b i).lo ∧ (syt b i).lo ≤ (syt b i).hi) ∧ (i = 0 ∨ bef (syt b (i - 1)) (syt b i) = true)) := by
    intro i hi
    have := h6 i hi
    simp only [sayB, hd, hf, Bool.and_eq_true, within_iff, Bool.or_eq_true, decide_eq_true_eq] at this
    exact this
  refine ⟨h1, by omega, h3, h4, fun i hi => ?_, fun i hi => ?_, fun i hi => ?_⟩
  · have := h5 b.found[i] (List.getElem_mem hi)
    rw [List.getElem?_eq_getElem hi]
    exact this
  · obtain ⟨a1, a2, a3, a4, _⟩ := hs i hi
    omega
  · obtain ⟨_, _, _, _, a5⟩ := hs (i + 1) hi
    rcases a5 with a5 | a5
    · omega
    · exact a5

theorem wid_eq {b : Bk} (hv : BV b) {i : Nat} (hi : i < b.say.length) : wid (syt b i) = (syt b i).hi - (syt b i).lo + 1 := by
  have h1 := hv.dp
  obtain ⟨_, _, h2, h3, h4⟩ := hv.sy i hi
  unfold wid
  rw [w64_id (n := (syt b i).hi - (syt b i).lo) (by omega), w64_id (by omega)]

theorem pts_bd {b : Bk} (hv : BV b) {i : Nat} (hi : i < b.say.length) (f : List Int) : -12 ≤ ptsOf b (syt b i) f ∧ ptsOf b (syt b i) f ≤ 12 := by
  have h1 := hv.dp
  obtain ⟨_, _, h2, h3, h4⟩ := hv.sy i hi
  have hw := wid_eq hv hi
  unfold ptsOf
  rw [hw]
  repeat' split
  · rw [w64_id (by omega)]; omega
  · rw [w64_id (by omega)]; omega
  · omega

end Go.Proofs.Ytmcfibpeenhcnaa


/- Scores. -/
set_option linter.unusedSimpArgs false
set_option linter.unusedVariables false
set_option linter.unnecessarySimpa false
namespace Go.Proofs.Ytmcfibpeenhcnaa
open Go Go.V

/-- The score of a dowser by the first k sayings. -/
def scoK (b : Bk) (d : Int) (f : List Int) : Nat → Int
  | 0 => 0
  | k + 1 => scoK b d f k + if (syt b k).d = d then ptsOf b (syt b k) f else 0
def sco (b : Bk) (d : Int) (f : List Int) : Int := scoK b d f b.say.length

theorem scoK_bd {b : Bk} (hv : BV b) (d : Int) (f : List Int) : ∀ k, k ≤ b.say.length → -12 * (k : Int) ≤ scoK b d f k ∧ scoK b d f k ≤ 12 * (k : Int)
  | 0, _ => by simp [scoK]
  | k + 1, hk => by
    have ih := scoK_bd hv d f k (by omega)
    have hp := pts_bd hv (i := k) (by omega) f
    simp only [scoK]
    split <;> omega

theorem c32 (b : Bk) (hv : BV b) (hn : b.say.length < 4294967296) (d : Int) (f : List Int) (hf : f.length = b.found.length) : Ctr Try.prog 32 [DB b, .int d, IS f] (.int (sco b d f)) := by
  refine ctr_of_wp hmix Try.func32 m32 rfl ?_
  unfold v32
  simp -failIfUnchanged (disch := first | omega | (simp <;> omega) | fail) only [go_sem, simprocAttr]
  refine wp_loop' Nat (fun i => ⟨[(1, .int d), (2, IS f), (3, .ptr 3 0), (7, .int (scoK b d f i)), (8, .int i)], [(3, ⟨[.int b.depth, IS b.found, .int b.dow, SL b.say, .int b.pence], false⟩)], [], none⟩) (fun i => i ≤ b.say.length) (fun i => b.say.length - i) 0 (by simp) (by simp -failIfUnchanged (disch := first | omega | (simp <;> omega) | fail) only [go_sem, simprocAttr]; simp [scoK]) ?_
  intro i hi
  have hi : i ≤ b.say.length := hi
  simp -failIfUnchanged (disch := first | omega | (simp <;> omega) | fail) only [go_sem, simprocAttr]
  refine wcond_dec (fun hc => ?_) (fun hc => ?_)
  · have hlt : i < b.say.length := by omega
    obtain ⟨x, hx⟩ : ∃ x, b.say[i]? = some x := ⟨b.say[i], by simp [hlt]⟩
    have hsx : syt b i = x := by show b.say[i]?.getD default = x; rw [hx]; rfl
    have hb := scoK_bd hv d f i hi
    have hp := pts_bd hv hlt f
    have hsy := hv.sy i hlt
    rw [hsx] at hp hsy
    simp -failIfUnchanged (disch := first | omega | (simp <;> omega) | fail) only [go_sem, simprocAttr, hx]
    refine wcond_dec (fun h2 => ?_) (fun h2 => ?_)
    · simp -failIfUnchanged (disch := first | omega | (simp <;> omega) | fail) only [go_sem, simprocAttr, hx]
      refine wcall (c77 b x f hsy.2.1.1 (by rw [hf]; exact hsy.2.1.2)) ?_
      simp -failIfUnchanged (disch := first | omega | (simp <;> omega) | fail) only [go_sem, simprocAttr]
      refine ⟨i + 1, by dsimp only; omega, by dsimp only; omega, ?_⟩
      simp only [scoK, hsx, h2, if_true]
      simp -failIfUnchanged (disch := first | omega | (simp <;> omega) | fail) only [go_sem, simprocAttr]
      try simp
    · simp -failIfUnchanged (disch := first | omega | (simp <;> omega) | fail) only [go_sem, simprocAttr]
      refine ⟨i + 1, by dsimp only; omega, by dsimp only; omega, ?_⟩
      simp only [scoK, hsx, h2, if_false]
      simp -failIfUnchanged (disch := first | omega | (simp <;> omega) | fail) only [go_sem, simprocAttr]
      try simp
  · have e : i = b.say.length := by omega
    subst e
    simp -failIfUnchanged (disch := first | omega | (simp <;> omega) | fail) only [go_sem, simprocAttr]
    rfl

end Go.Proofs.Ytmcfibpeenhcnaa


/- The scores of what was found. -/
set_option linter.unusedSimpArgs false
set_option linter.unusedVariables false
set_option linter.unnecessarySimpa false
namespace Go.Proofs.Ytmcfibpeenhcnaa
open Go Go.V

def nowK (b : Bk) (k : Nat) : List Int := (List.range 4).map fun d => scoK b (d : Nat) b.found k

theorem nowK_len (b : Bk) (k : Nat) : (nowK b k).length = 4 := by simp [nowK]
theorem nowK_at (b : Bk) (k d : Nat) (hd : d < 4) : (nowK b k)[d]?.getD default = scoK b (d : Nat) b.found k := by simp [nowK, hd]

theorem pts_open (b : Bk) (s : Sy) (f : List Int) (h : f[s.p.toNat]?.getD default = 0) : ptsOf b s f = 0 := by
  unfold ptsOf hitI
  rw [if_pos h]
  rfl
theorem pts_dug (b : Bk) (s : Sy) (f : List Int) (h : ¬ f[s.p.toNat]?.getD default = 0) : ptsI b s (f[s.p.toNat]?.getD default) = ptsOf b s f := by
  unfold ptsOf hitI ptsI
  rw [if_neg h]
  split <;> rfl

theorem nowK_set (b : Bk) (k d : Nat) (hd : d < 4) (he : (syt b k).d = (d : Nat)) : (nowK b k).set d (scoK b (d : Nat) b.found k + ptsOf b (syt b k) b.found) = nowK b (k + 1) := by
  apply List.ext_getElem (by simp [nowK])
  intro j h1 h2
  simp only [nowK, List.length_map, List.length_range] at h2
  rw [List.getElem_set]
  by_cases e : d = j
  · subst e
    simp [nowK, scoK, he]
  · rw [if_neg e]
    simp only [nowK, List.getElem_map, List.getElem_range, scoK]
    rw [if_neg (by rw [he]; omega)]
    omega

theorem nowK_open (b : Bk) (k : Nat) (h : ptsOf b (syt b k) b.found = 0) : nowK b (k + 1) = nowK b k := by
  unfold nowK
  apply List.map_congr_left
  intro d _
  simp only [scoK, h]
  split <;> omega

end Go.Proofs.Ytmcfibpeenhcnaa


/- now: the scores of what was found. -/
set_option linter.unusedSimpArgs false
set_option linter.unusedVariables false
set_option linter.unnecessarySimpa false
namespace Go.Proofs.Ytmcfibpeenhcnaa
open Go Go.V

theorem zeros_ints (n : Nat) : zeros [.int 0] n = (List.replicate n (0 : Int)).map .int := by
  induction n with
  | zero => rfl
  | succ n ih => simp only [zeros, List.replicate_succ, List.map_cons, ih]; rfl

theorem setAt_ints {xs : List Int} {i : Nat} {x : Int} (h : i < xs.length) : setAt (xs.map .int) i [.int x] = (xs.set i x).map .int := by
  induction xs generalizing i with
  | nil => simp at h
  | cons w l ih =>
    cases i with
    | zero => rfl
    | succ i =>
      simp only [List.map_cons, setAt, List.set_cons_succ]
      rw [ih (by simpa using h)]

theorem map_ints {xs : List Int} {hp : List (Nat × BX)} : (xs.map AV.int).map (strip hp) = xs.map .int := by
  rw [List.map_map]
  rfl

theorem bids_ints {xs : List Int} : bids (xs.map AV.int) = [] := by
  induction xs with
  | nil => rfl
  | cons w l ih => simp only [List.map_cons, bids, AV.bid, AV.bid1, ih, List.append_nil]

theorem scopes_ints {τ : AS} {xs : List Int} : scopes τ (xs.map AV.int) = True := by
  induction xs with
  | nil => rfl
  | cons w l ih => simp only [List.map_cons, scopes, inScope, ih, and_self]

theorem chunks_ints {xs : List Int} {n : Nat} (h : n = xs.length) : chunks false 1 (xs.map AV.int) 0 n = xs.map .int := by
  subst h
  apply List.ext_getElem?
  intro i
  rcases Nat.lt_or_ge i xs.length with hi | hi
  · rw [chunks_get _ _ _ _ _ _ hi]
    simp [chunk, hi]
  · rw [List.getElem?_eq_none (by rw [chunks_length]; exact hi), List.getElem?_eq_none (by simpa using hi)]

theorem ints_get {xs : List Int} {i : Nat} (h : i < xs.length) : (xs.map AV.int)[i]?.getD .und = .int (xs[i]?.getD default) := by simp [h]

attribute [go_sem] ints_get zeros_ints setAt_ints map_ints bids_ints scopes_ints

theorem out1_eq {P : Program} {fr : List (Nat × AV)} {hp : List (Nat × BX)} {tk : List (Nat × Nat)} {pd : Option Ex} {t : Nat} {ty : TypeId} : out1 P ⟨fr, hp, tk, pd⟩ (.cell t ty) = (match get fr t with
    | .ptr b 0 => match getB hp b with
      | some ⟨cells, true⟩ => match aggOf P ty with
        | some true => if szOf P ty = some cells.length then .agg cells else .und
        | some false => match cells with
          | [x] => x
          | _ => .und
        | none => .und
      | _ => .und
    | _ => .und) := rfl

theorem ag88 : aggOf Try.prog 88 = some true := by kernel_rfl
theorem sz88 : szOf Try.prog 88 = some 4 := by kernel_rfl
attribute [go_sem] ag88 sz88 out1_eq

theorem c70 (b : Bk) (hv : BV b) (hn : b.say.length < 4294967296) : Ctr Try.prog 70 [OB b] (.agg ((nowK b b.say.length).map .int)) := by
  refine ctr_of_wp hmix Try.func70 m70 rfl ?_
  unfold v70
  simp -failIfUnchanged (disch := first | omega | (simp <;> omega) | fail) only [go_sem, simprocAttr]
  refine wp_loop' Nat (fun i => ⟨[(0, OB b), (2, .ptr 2 0), (9, SL b.say), (10, .int b.say.length), (11, .int i)], [(2, ⟨(nowK b i).map .int, false⟩)], [], none⟩) (fun i => i ≤ b.say.length) (fun i => b.say.length - i) 0 (by simp) (by simp -failIfUnchanged (disch := first | omega | (simp <;> omega) | fail) only [go_sem, simprocAttr]; simp [nowK, scoK]; try rfl) ?_
  intro i hi
  have hi : i ≤ b.say.length := hi
  simp -failIfUnchanged (disch := first | omega | (simp <;> omega) | fail) only [go_sem, simprocAttr]
  refine wcond_dec (fun hc => ?_) (fun hc => ?_)
  · have hlt : i < b.say.length := by omega
    obtain ⟨x, hx⟩ : ∃ x, b.say[i]? = some x := ⟨b.say[i], by simp [hlt]⟩
    have hsx : syt b i = x := by show b.say[i]?.getD default = x; rw [hx]; rfl
    have hsy := hv.sy i hlt
    have hdw := hv.dw
    rw [hsx] at hsy
    have c84' := c84 b x hsy.2.1.1 hsy.2.1.2
    simp -failIfUnchanged (disch := first | omega | (simp <;> omega) | fail) only [go_sem, simprocAttr, hx]
    refine wcall c84' ?_
    by_cases ho : b.found[x.p.toNat]?.getD default = 0
    · rw [decide_eq_true ho]
      simp -failIfUnchanged (disch := first | omega | (simp <;> omega) | fail) only [go_sem, simprocAttr]
      refine ⟨i + 1, by dsimp only; omega, by dsimp only; omega, ?_⟩
      dsimp only
      rw [nowK_open b i (by rw [hsx]; exact pts_open b x _ ho)]
      simp -failIfUnchanged (disch := first | omega | (simp <;> omega) | fail) only [go_sem, simprocAttr]
      try simp
    · rw [decide_eq_false ho]
      obtain ⟨d, hd⟩ : ∃ d : Nat, x.d = d := ⟨x.d.toNat, by omega⟩
      obtain ⟨k, hk⟩ : ∃ k : Nat, x.p = k := ⟨x.p.toNat, by omega⟩
      have hd4 : d < 4 := by omega
      have hkl : k < b.found.length := by omega
      have hat := nowK_at b i d hd4
      have hln := nowK_len b i
      have c85' := c85 b x (b.found[x.p.toNat]?.getD default)
      rw [pts_dug b x _ ho] at c85'
      have hset := nowK_set b i d hd4 (by rw [hsx]; exact hd)
      rw [hsx] at hset
      have hb := scoK_bd hv (d : Nat) b.found i hi
      have hp := pts_bd hv hlt b.found
      rw [hsx] at hp
      rw [hk, Int.toNat_natCast] at c85'
      unfold SY at c85'
      rw [hd, hk] at c85'
      simp -failIfUnchanged (disch := first | omega | (simp <;> omega) | fail) only [go_sem, simprocAttr, hd, hk, hat, hln]
      refine wcall c85' ?_
      simp -failIfUnchanged (disch := first | omega | (simp <;> omega) | fail) only [go_sem, simprocAttr, hd, hk, hat, hln]
      refine ⟨i + 1, by dsimp only; omega, by dsimp only; omega, ?_⟩
      dsimp only
      rw [← hset]
      simp -failIfUnchanged (disch := first | omega | (simp <;> omega) | fail) only [go_sem, simprocAttr]
      try simp
  · have e : i = b.say.length := by omega
    subst e
    have hln := nowK_len b b.say.length
    have htk : List.take 4 (List.map AV.int (nowK b b.say.length)) = List.map AV.int (nowK b b.say.length) := List.take_of_length_le (by simp [nowK_len])
    have hdr : List.drop 4 (List.map AV.int (nowK b b.say.length)) = [] := List.drop_of_length_le (by simp [nowK_len])
    simp -failIfUnchanged (disch := first | omega | (simp <;> omega) | fail) only [go_sem, simprocAttr, hln, htk, hdr, List.append_nil, bids_ints]
    try simp [nowK_len, AV.isUnd]

end Go.Proofs.Ytmcfibpeenhcnaa


/- What all dowsers can get at a place: plain law. -/
set_option linter.unusedSimpArgs false
set_option linter.unusedVariables false
set_option linter.unnecessarySimpa false
namespace Go.Proofs.Ytmcfibpeenhcnaa
open Go Go.V

/-- What a dowser gets of the first k sayings at a place, if water is found at a depth. -/
def chS (b : Bk) (p : Nat) (dep : Int) (d : Int) : Nat → Int
  | 0 => 0
  | k + 1 => chS b p dep d k + if (syt b k).p = (p : Nat) ∧ (syt b k).d = d then ptsI b (syt b k) dep else 0
def chK (b : Bk) (p : Nat) (dep : Int) (k : Nat) : List Int := (List.range 4).map fun d => chS b p dep (d : Nat) k
def chL (b : Bk) (p : Nat) (dep : Int) : List Int := chK b p dep b.say.length

theorem chK_len (b : Bk) (p : Nat) (dep : Int) (k : Nat) : (chK b p dep k).length = 4 := by simp [chK]
theorem chK_at (b : Bk) (p : Nat) (dep : Int) (k d : Nat) (hd : d < 4) : (chK b p dep k)[d]?.getD default = chS b p dep (d : Nat) k := by simp [chK, hd]

theorem chK_set (b : Bk) (p : Nat) (dep : Int) (k d : Nat) (hd : d < 4) (hp : (syt b k).p = (p : Nat)) (he : (syt b k).d = (d : Nat)) : (chK b p dep k).set d (chS b p dep (d : Nat) k + ptsI b (syt b k) dep) = chK b p dep (k + 1) := by
  apply List.ext_getElem (by simp [chK])
  intro j h1 h2
  simp only [chK, List.length_map, List.length_range] at h2
  rw [List.getElem_set]
  by_cases e : d = j
  · subst e
    simp [chK, chS, he, hp]
  · rw [if_neg e]
    simp only [chK, List.getElem_map, List.getElem_range, chS]
    rw [if_neg (by rw [he]; omega)]
    omega

theorem chK_other (b : Bk) (p : Nat) (dep : Int) (k : Nat) (h : ¬ (syt b k).p = (p : Nat)) : chK b p dep (k + 1) = chK b p dep k := by
  unfold chK
  apply List.map_congr_left
  intro d _
  simp only [chS]
  rw [if_neg (fun e => h e.1)]
  omega

/-- Each once, in the order in which they come. -/
def ddF (acc : List (List Int)) (x : List Int) : List (List Int) := if x ∈ acc then acc else acc ++ [x]
/-- The choices of the first depths. -/
def chs (b : Bk) (p : Nat) : Nat → List (List Int)
  | 0 => []
  | n + 1 => if b.found[p]?.getD default = 0 ∨ b.found[p]?.getD default = ((n + 1 : Nat) : Int) then ddF (chs b p n) (chL b p ((n + 1 : Nat) : Int)) else chs b p n

end Go.Proofs.Ytmcfibpeenhcnaa


/- choices: the walk. -/
set_option linter.unusedSimpArgs false
set_option linter.unusedVariables false
set_option linter.unnecessarySimpa false
namespace Go.Proofs.Ytmcfibpeenhcnaa
open Go Go.V

abbrev VL (l : List Int) : AV := .agg (l.map .int)

theorem ptsI_bd {b : Bk} (hv : BV b) {i : Nat} (hi : i < b.say.length) (dep : Int) : -12 ≤ ptsI b (syt b i) dep ∧ ptsI b (syt b i) dep ≤ 12 := by
  have h1 := hv.dp
  obtain ⟨_, _, h2, h3, h4⟩ := hv.sy i hi
  have hw := wid_eq hv hi
  unfold ptsI
  rw [hw]
  split
  · rw [w64_id (by omega)]; omega
  · rw [w64_id (by omega)]; omega

theorem chS_bd {b : Bk} (hv : BV b) (p : Nat) (dep d : Int) : ∀ k, k ≤ b.say.length → -12 * (k : Int) ≤ chS b p dep d k ∧ chS b p dep d k ≤ 12 * (k : Int)
  | 0, _ => by simp [chS]
  | k + 1, hk => by
    have ih := chS_bd hv p dep d k (by omega)
    have hp := ptsI_bd hv (i := k) (by omega) dep
    simp only [chS]
    split <;> omega

theorem chL_range {b : Bk} (hv : BV b) (hn : b.say.length < 4294967296) (p : Nat) (dep : Int) : ∀ y ∈ chL b p dep, inR y := by
  intro y hy
  obtain ⟨d, _, rfl⟩ := List.mem_map.1 hy
  have := chS_bd hv p dep (d : Nat) b.say.length (Nat.le_refl _)
  unfold inR
  omega

end Go.Proofs.Ytmcfibpeenhcnaa


/- choices 68. -/
set_option linter.unusedSimpArgs false
set_option linter.unusedVariables false
set_option linter.unnecessarySimpa false
namespace Go.Proofs.Ytmcfibpeenhcnaa
open Go Go.V

theorem inS_mpr {τ : AS} {l : Nat} : inScope τ (.mpr l) = True := rfl
theorem inS_nilp {τ : AS} : inScope τ .nilp = True := rfl
attribute [go_sem] inS_mpr inS_nilp

structure Later (T : Prop) : Prop where
  out : T
theorem tailed {T G : Prop} (h : Later T → G) (t : T) : G := h ⟨t⟩

def chI (b : Bk) (p n : Nat) (kv : List (List Int × Int)) : Prop := ∀ ys, (ys ∈ chs b p n → 1 ≤ kvget kv ys ∧ kvget kv ys ≤ n) ∧ (ys ∉ chs b p n → kvget kv ys = 0)

theorem mem_ddF {acc : List (List Int)} {x y : List Int} : y ∈ ddF acc x ↔ y ∈ acc ∨ y = x := by
  unfold ddF
  split
  · rename_i h
    exact ⟨.inl, fun h' => h'.elim id fun e => e ▸ h⟩
  · simp

theorem chs_len (b : Bk) (p : Nat) : ∀ n, (chs b p n).length ≤ n
  | 0 => by simp [chs]
  | n + 1 => by
    have ih := chs_len b p n
    simp only [chs]
    split
    · unfold ddF
      split
      · omega
      · simp only [List.length_append, List.length_cons, List.length_nil]; omega
    · omega

theorem c68 (b : Bk) (hv : BV b) (hn : b.say.length < 4294967296) (p : Nat) (hp : p < b.found.length) (D : Nat) (hD : b.depth = D) : Ctr Try.prog 68 [OB b, .int p] (.sl 4 ((chs b p D).map VL) .sh) := by
  refine ctr_of_wp hmix Try.func68 m68 rfl ?_
  unfold v68
  have hdp := hv.dp
  simp -failIfUnchanged (disch := first | omega | (simp <;> omega) | fail) only [go_sem, simprocAttr]
  refine wmmake mk113 fun l => ?_
  simp -failIfUnchanged (disch := first | omega | (simp <;> omega) | fail) only [go_sem, simprocAttr]
  refine wp_loop' (Nat × List (List Int × Int)) (fun x => ⟨[(0, OB b), (1, .int p), (5, .mpr l), (6, .sl 4 ((chs b p x.1).map VL) (.own 6)), (7, .int ((x.1 + 1 : Nat) : Int))], [], [(6, (chs b p x.1).length)], some (.mp l 4 x.2)⟩) (fun x => x.1 ≤ D ∧ chI b p x.1 x.2) (fun x => D - x.1) (0, []) ⟨by simp, fun ys => by simp [chs, kvget]⟩ (by simp -failIfUnchanged (disch := first | omega | (simp <;> omega) | fail) only [go_sem, simprocAttr]; try simp [chs]) ?_
  rintro ⟨n, kv⟩ ⟨hnD, hkv⟩
  dsimp only at hnD hkv ⊢
  simp -failIfUnchanged (disch := first | omega | (simp <;> omega) | fail) only [go_sem, simprocAttr, hD]
  refine wcond_dec (fun hc => ?_) (fun hc => ?_)
  · have hlt : n < D := by omega
    have hcl : ((n : Int) + 1) = ((n + 1 : Nat) : Int) := by omega
    by_cases ha : b.found[p]?.getD default = 0 ∨ b.found[p]?.getD default = ((n + 1 : Nat) : Int)
    · have hch : chs b p (n + 1) = ddF (chs b p n) (chL b p ((n + 1 : Nat) : Int)) := by simp only [chs]; rw [if_pos ha]
      refine tailed (T := ?T) (fun tail => ?m) ?t
      case m =>
        by_cases h1 : b.found[p]?.getD default = 0
        · have h1' : decide (¬ b.found[p]?.getD default = 0) = false := decide_eq_false (by simpa using h1)
          simp -failIfUnchanged (disch := first | omega | (simp <;> omega) | fail) only [go_sem, simprocAttr, h1']
          exact tail.out
        · have h2 : b.found[p]?.getD default = ((n + 1 : Nat) : Int) := ha.resolve_left h1
          have h1' : decide (¬ b.found[p]?.getD default = 0) = true := decide_eq_true h1
          have h2' : decide (¬ b.found[p]?.getD default = ((n + 1 : Nat) : Int)) = false := decide_eq_false (by simpa using h2)
          simp -failIfUnchanged (disch := first | omega | (simp <;> omega) | fail) only [go_sem, simprocAttr, h1', h2']
          exact tail.out
      case t =>
        obtain ⟨dep, hdep⟩ : ∃ dep : Nat, n + 1 = dep := ⟨_, rfl⟩
        rw [hdep] at hch ⊢
        refine wp_loop' Nat (fun i => ⟨[(0, OB b), (1, .int p), (5, .mpr l), (6, .sl 4 ((chs b p n).map VL) (.own 6)), (7, .int (dep : Nat)), (9, .ptr 9 0), (41, SL b.say), (42, .int b.say.length), (43, .int i)], [(9, ⟨(chK b p (dep : Nat) i).map .int, false⟩)], [(6, (chs b p n).length)], some (.mp l 4 kv)⟩) (fun i => i ≤ b.say.length) (fun i => b.say.length - i) 0 (by simp) (by simp -failIfUnchanged (disch := first | omega | (simp <;> omega) | fail) only [go_sem, simprocAttr]; simp [chK, chS]; try rfl) ?_
        intro i hi
        have hi : i ≤ b.say.length := hi
        simp -failIfUnchanged (disch := first | omega | (simp <;> omega) | fail) only [go_sem, simprocAttr]
        refine wcond_dec (fun hc2 => ?_) (fun hc2 => ?_)
        · have hli : i < b.say.length := by omega
          obtain ⟨x, hx⟩ : ∃ x, b.say[i]? = some x := ⟨b.say[i], by simp [hli]⟩
          have hsx : syt b i = x := by show b.say[i]?.getD default = x; rw [hx]; rfl
          have hsy := hv.sy i hli
          have hdw := hv.dw
          rw [hsx] at hsy
          simp -failIfUnchanged (disch := first | omega | (simp <;> omega) | fail) only [go_sem, simprocAttr, hx]
          refine wcond_dec (fun he => ?_) (fun he => ?_)
          · obtain ⟨d, hd⟩ : ∃ d : Nat, x.d = d := ⟨x.d.toNat, by omega⟩
            have hd4 : d < 4 := by omega
            have hat := chK_at b p (dep : Nat) i d hd4
            have hln := chK_len b p (dep : Nat) i
            have c85' := c85 b x (dep : Nat)
            have hset := chK_set b p (dep : Nat) i d hd4 (by rw [hsx]; exact he) (by rw [hsx]; exact hd)
            rw [hsx] at hset
            have hb := chS_bd hv p (dep : Nat) (d : Nat) i hi
            have hpb := ptsI_bd hv hli (dep : Nat)
            rw [hsx] at hpb
            unfold SY at c85'
            rw [hd] at c85'
            simp -failIfUnchanged (disch := first | omega | (simp <;> omega) | fail) only [go_sem, simprocAttr, hd, hat, hln]
            refine wcall c85' ?_
            simp -failIfUnchanged (disch := first | omega | (simp <;> omega) | fail) only [go_sem, simprocAttr, hd, hat, hln]
            refine ⟨i + 1, by dsimp only; omega, by dsimp only; omega, ?_⟩
            dsimp only
            rw [← hset]
            simp -failIfUnchanged (disch := first | omega | (simp <;> omega) | fail) only [go_sem, simprocAttr]
            try simp
          · simp -failIfUnchanged (disch := first | omega | (simp <;> omega) | fail) only [go_sem, simprocAttr]
            refine ⟨i + 1, by dsimp only; omega, by dsimp only; omega, ?_⟩
            dsimp only
            rw [chK_other b p _ i (by rw [hsx]; exact he)]
            simp -failIfUnchanged (disch := first | omega | (simp <;> omega) | fail) only [go_sem, simprocAttr]
            try simp
        · have e : i = b.say.length := by omega
          subst e
          have hxl : (chK b p (dep : Nat) b.say.length).length = 4 := chK_len b p _ _
          have htk : List.take 4 (List.map AV.int (chK b p (dep : Nat) b.say.length)) = List.map AV.int (chK b p (dep : Nat) b.say.length) := List.take_of_length_le (by simp [chK_len])
          simp -failIfUnchanged (disch := first | omega | (simp <;> omega) | fail) only [go_sem, simprocAttr]
          refine wbump (xs := chK b p (dep : Nat) b.say.length) mk113 rfl ?_ hxl (chL_range hv hn p (dep : Nat)) ?_
          · simp -failIfUnchanged (disch := first | omega | (simp <;> omega) | fail) only [go_sem, simprocAttr, htk, hxl]
          · have hk0 := hkv (chK b p (dep : Nat) b.say.length)
            have hnw : (0 ≤ kvget kv (chK b p (dep : Nat) b.say.length) ∧ kvget kv (chK b p (dep : Nat) b.say.length) ≤ n) := by
              by_cases hm : chK b p (dep : Nat) b.say.length ∈ chs b p n
              · have := hk0.1 hm; omega
              · have := hk0.2 hm; omega
            have hw : w64 (kvget kv (chK b p (dep : Nat) b.say.length) + 1) = kvget kv (chK b p (dep : Nat) b.say.length) + 1 := w64_id (by omega)
            have hI : chI b p dep (kvset kv (chK b p (dep : Nat) b.say.length) (kvget kv (chK b p (dep : Nat) b.say.length) + 1)) := by
              intro ys
              rw [kvget_set, hch]
              show (ys ∈ ddF _ (chK b p (dep : Nat) b.say.length) → _) ∧ (ys ∉ ddF _ (chK b p (dep : Nat) b.say.length) → _)
              rw [mem_ddF]
              have hy := hkv ys
              by_cases e : ys = chK b p (dep : Nat) b.say.length
              · subst e
                rw [if_pos rfl]
                exact ⟨fun _ => by omega, fun h => absurd (.inr rfl) h⟩
              · rw [if_neg e]
                refine ⟨fun h => ?_, fun h => hy.2 fun h' => h (.inl h')⟩
                have := hy.1 (h.resolve_right e)
                omega
            have hg : kvget (kvset kv (chK b p (dep : Nat) b.say.length) (kvget kv (chK b p (dep : Nat) b.say.length) + 1)) (chK b p (dep : Nat) b.say.length) = kvget kv (chK b p (dep : Nat) b.say.length) + 1 := by rw [kvget_set, if_pos rfl]
            have hlc : (chs b p n).length ≤ n := chs_len b p n
            simp -failIfUnchanged (disch := first | omega | (simp <;> omega) | fail) only [go_sem, simprocAttr, htk, hxl]
            refine wmlook mk113 hxl (chL_range hv hn p (dep : Nat)) ?_
            rw [hg]
            generalize hK : kvset kv (chK b p (dep : Nat) b.say.length) (kvget kv (chK b p (dep : Nat) b.say.length) + 1) = kv2 at hI
            simp -failIfUnchanged (disch := first | omega | (simp <;> omega) | fail) only [go_sem, simprocAttr]
            refine wcond_dec (fun h7 => ?_) (fun h7 => ?_)
            · have hnm : chK b p (dep : Nat) b.say.length ∉ chs b p n := fun hm => by have := hk0.1 hm; omega
              have hch2 : chs b p dep = chs b p n ++ [chK b p (dep : Nat) b.say.length] := by rw [hch]; exact if_neg hnm
              simp -failIfUnchanged (disch := first | omega | (simp <;> omega) | fail) only [go_sem, simprocAttr, htk, hxl]
              refine ⟨(dep, kv2), ⟨by dsimp only; omega, hI⟩, by dsimp only; omega, ?_⟩
              dsimp only
              rw [hch2]
              simp -failIfUnchanged (disch := first | omega | (simp <;> omega) | fail) only [go_sem, simprocAttr]
              try simp
            · have hm : chK b p (dep : Nat) b.say.length ∈ chs b p n := by
                by_cases hm : chK b p (dep : Nat) b.say.length ∈ chs b p n
                · exact hm
                · have := hk0.2 hm; omega
              have hch2 : chs b p dep = chs b p n := by rw [hch]; exact if_pos hm
              simp -failIfUnchanged (disch := first | omega | (simp <;> omega) | fail) only [go_sem, simprocAttr]
              refine ⟨(dep, kv2), ⟨by dsimp only; omega, hI⟩, by dsimp only; omega, ?_⟩
              dsimp only
              rw [hch2]
              simp -failIfUnchanged (disch := first | omega | (simp <;> omega) | fail) only [go_sem, simprocAttr]
              try simp
    · have hch : chs b p (n + 1) = chs b p n := by simp only [chs]; rw [if_neg ha]
      have h1 : ¬ b.found[p]?.getD default = 0 := fun e => ha (.inl e)
      have h2 : ¬ b.found[p]?.getD default = ((n + 1 : Nat) : Int) := fun e => ha (.inr e)
      simp -failIfUnchanged (disch := first | omega | (simp <;> omega) | fail) only [go_sem, simprocAttr, h1, h2]
      refine ⟨(n + 1, kv), ⟨by dsimp only; omega, fun ys => ?_⟩, by dsimp only; omega, ?_⟩
      · dsimp only
        rw [hch]
        refine ⟨fun h => ?_, (hkv ys).2⟩
        have := (hkv ys).1 h
        omega
      · dsimp only
        rw [hch]
        simp -failIfUnchanged (disch := first | omega | (simp <;> omega) | fail) only [go_sem, simprocAttr]
        try simp
  · have e : n = D := by omega
    subst e
    simp -failIfUnchanged (disch := first | omega | (simp <;> omega) | fail) only [go_sem, simprocAttr]

end Go.Proofs.Ytmcfibpeenhcnaa


/- Least and greatest; sums over places; truths. -/
set_option linter.unusedSimpArgs false
set_option linter.unusedVariables false
set_option linter.unnecessarySimpa false
namespace Go.Proofs.Ytmcfibpeenhcnaa
open Go Go.V

/-- A sum over the first n numbers. -/
def sumN (f : Nat → Int) : Nat → Int
  | 0 => 0
  | n + 1 => sumN f n + f n

theorem sumN_bd {f : Nat → Int} {lo hi : Int} : ∀ n, (∀ i, i < n → lo ≤ f i ∧ f i ≤ hi) → lo * n ≤ sumN f n ∧ sumN f n ≤ hi * n
  | 0, _ => by simp [sumN]
  | n + 1, h => by
    have h1 := sumN_bd n fun i hi => h i (by omega)
    have h2 := h n (by omega)
    have e1 : lo * ((n + 1 : Nat) : Int) = lo * n + lo := by rw [Int.natCast_add, Int.mul_add]; simp
    have e2 : hi * ((n + 1 : Nat) : Int) = hi * n + hi := by rw [Int.natCast_add, Int.mul_add]; simp
    rw [e1, e2]
    simp only [sumN]; omega

/-- The least, and the greatest, of the first k of a list (and of its first one). -/
def mnK (f : List Int → Int) (l : List (List Int)) : Nat → Int
  | 0 => f (l[0]?.getD default)
  | k + 1 => min (mnK f l k) (f (l[k]?.getD default))
def mxK (f : List Int → Int) (l : List (List Int)) : Nat → Int
  | 0 => f (l[0]?.getD default)
  | k + 1 => max (mxK f l k) (f (l[k]?.getD default))
def mn (f : List Int → Int) (l : List (List Int)) : Int := mnK f l l.length
def mx (f : List Int → Int) (l : List (List Int)) : Int := mxK f l l.length

theorem mxK_ge (f : List Int → Int) (l : List (List Int)) : ∀ k j, j < k → f (l[j]?.getD default) ≤ mxK f l k
  | k + 1, j, h => by
    simp only [mxK]
    by_cases e : j = k
    · subst e; omega
    · have := mxK_ge f l k j (by omega); omega
theorem mnK_at (f : List Int → Int) (l : List (List Int)) (h0 : 0 < l.length) : ∀ k, k ≤ l.length → ∃ j, j < l.length ∧ mnK f l k = f (l[j]?.getD default)
  | 0, _ => ⟨0, h0, rfl⟩
  | k + 1, h => by
    simp only [mnK]
    by_cases e : mnK f l k ≤ f (l[k]?.getD default)
    · obtain ⟨j, h1, h2⟩ := mnK_at f l h0 k (by omega)
      exact ⟨j, h1, by rw [← h2]; omega⟩
    · exact ⟨k, by omega, by omega⟩
theorem mxK_at (f : List Int → Int) (l : List (List Int)) (h0 : 0 < l.length) : ∀ k, k ≤ l.length → ∃ j, j < l.length ∧ mxK f l k = f (l[j]?.getD default)
  | 0, _ => ⟨0, h0, rfl⟩
  | k + 1, h => by
    simp only [mxK]
    by_cases e : f (l[k]?.getD default) ≤ mxK f l k
    · obtain ⟨j, h1, h2⟩ := mxK_at f l h0 k (by omega)
      exact ⟨j, h1, by rw [← h2]; omega⟩
    · exact ⟨k, by omega, by omega⟩
theorem getD_mem {l : List (List Int)} {j : Nat} (h : j < l.length) : l[j]?.getD default ∈ l := by
  rw [List.getElem?_eq_getElem h]; exact List.getElem_mem h
theorem mx_ge {f : List Int → Int} {l : List (List Int)} {x : List Int} (hx : x ∈ l) : f x ≤ mx f l := by
  obtain ⟨j, hj, rfl⟩ := List.getElem_of_mem hx
  have := mxK_ge f l l.length j hj
  rwa [List.getElem?_eq_getElem hj] at this
/-- A depth that can be at a place. -/
def okD (b : Bk) (p : Nat) (k : Int) : Prop := 1 ≤ k ∧ k ≤ b.depth ∧ (b.found[p]?.getD default = 0 ∨ b.found[p]?.getD default = k)

theorem mem_chs {b : Bk} {p : Nat} {x : List Int} : ∀ {n : Nat}, x ∈ chs b p n ↔ ∃ k : Nat, 1 ≤ k ∧ k ≤ n ∧ (b.found[p]?.getD default = 0 ∨ b.found[p]?.getD default = (k : Int)) ∧ x = chL b p (k : Int)
  | 0 => by
    simp only [chs, List.not_mem_nil, false_iff]
    rintro ⟨k, h1, h2, _⟩
    omega
  | n + 1 => by
    have ih := mem_chs (b := b) (p := p) (x := x) (n := n)
    simp only [chs]
    split
    · rename_i ha
      rw [mem_ddF, ih]
      constructor
      · rintro (⟨k, h1, h2, h3, h4⟩ | e)
        · exact ⟨k, h1, by omega, h3, h4⟩
        · exact ⟨n + 1, by omega, by omega, ha, e⟩
      · rintro ⟨k, h1, h2, h3, h4⟩
        by_cases e : k = n + 1
        · subst e; exact .inr h4
        · exact .inl ⟨k, h1, by omega, h3, h4⟩
    · rename_i ha
      rw [ih]
      constructor
      · rintro ⟨k, h1, h2, h3, h4⟩
        exact ⟨k, h1, by omega, h3, h4⟩
      · rintro ⟨k, h1, h2, h3, h4⟩
        by_cases e : k = n + 1
        · subst e; exact absurd h3 ha
        · exact ⟨k, h1, by omega, h3, h4⟩

/-- All choices at a place. -/
def chA (b : Bk) (p : Nat) : List (List Int) := chs b p b.depth.toNat

theorem mem_chA {b : Bk} {p : Nat} {x : List Int} : x ∈ chA b p ↔ ∃ k : Int, okD b p k ∧ x = chL b p k := by
  unfold chA
  rw [mem_chs]
  constructor
  · rintro ⟨k, h1, h2, h3, h4⟩
    exact ⟨k, ⟨by omega, by omega, h3⟩, h4⟩
  · rintro ⟨k, ⟨h1, h2, h3⟩, h4⟩
    obtain ⟨n, rfl⟩ : ∃ n : Nat, k = n := ⟨k.toNat, by omega⟩
    exact ⟨n, by omega, by omega, h3, h4⟩

theorem okD_ex {b : Bk} (hv : BV b) {p : Nat} (hp : p < b.found.length) : ∃ k, okD b p k := by
  have h1 := hv.dp
  have h2 := hv.fo p hp
  by_cases e : b.found[p]?.getD default = 0
  · exact ⟨1, by omega, by omega, .inl e⟩
  · exact ⟨b.found[p]?.getD default, by omega, by omega, .inr rfl⟩

theorem chA_pos {b : Bk} (hv : BV b) {p : Nat} (hp : p < b.found.length) : 0 < (chA b p).length := by
  obtain ⟨k, hk⟩ := okD_ex hv hp
  exact List.length_pos_of_mem (mem_chA.2 ⟨k, hk, rfl⟩)

theorem chA_len {b : Bk} (hv : BV b) (p : Nat) : (chA b p).length ≤ 12 := by
  have := chs_len b p b.depth.toNat
  have := hv.dp
  unfold chA
  omega

/-- A truth. -/
structure IsT (b : Bk) (t : List Int) : Prop where
  len : t.length = b.found.length
  ok : ∀ p, p < b.found.length → okD b p (t[p]?.getD default)

theorem chL_at (b : Bk) (p : Nat) (k : Int) {d : Nat} (hd : d < 4) : (chL b p k)[d]?.getD default = chS b p k (d : Nat) b.say.length := chK_at b p k b.say.length d hd

/-- Between. -/
def lowB (b : Bk) (d : Nat) : Int := sumN (fun p => mn (fun x => x[d]?.getD default) (chA b p)) b.found.length
def higB (b : Bk) (d : Nat) : Int := sumN (fun p => mx (fun x => x[d]?.getD default) (chA b p)) b.found.length

/-- By how much one is ahead of another one. -/
def dif (o one : Nat) (x : List Int) : Int := x[o]?.getD default - x[one]?.getD default

/-- The most by which another one can be ahead. -/
def worst (b : Bk) (one o : Nat) : Int := sumN (fun p => mx (dif o one) (chA b p)) b.found.length
def surelyB (b : Bk) (one : Nat) : Bool := (List.range b.dow.toNat).all fun o => decide (worst b one o ≤ 0)

/-- How far all are ahead, behind one more choice. -/
def addv (b : Bk) (one : Nat) (a x : List Int) : List Int := (List.range 4).map fun o : Nat => if ((o : Nat) : Int) < b.dow then a[o]?.getD default + dif o one x else a[o]?.getD default

/-- One can lead, with the last k places to come. -/
def canB (b : Bk) (one : Nat) : Nat → List Int → Bool
  | 0, a => (List.range b.dow.toNat).all fun o => decide (a[o]?.getD default ≤ 0)
  | k + 1, a => (chA b (b.found.length - (k + 1))).any fun x => canB b one k (addv b one a x)

theorem addv_at {b : Bk} {one : Nat} {a x : List Int} {o : Nat} (h : o < 4) (ho : (o : Int) < b.dow) : (addv b one a x)[o]?.getD default = a[o]?.getD default + dif o one x := by simp [addv, h, ho]

/-- What is known of whether one leads. -/
def leadsI (b : Bk) (one : Nat) : Int := if surelyB b one then 1 else if canB b one b.found.length [0, 0, 0, 0] then 3 else 2

/-- By how much one can still come nearer to another one, at the last k places. -/
def gn (b : Bk) (one o : Nat) : Nat → Int
  | 0 => 0
  | k + 1 => gn b one o k + mx (dif one o) (chA b (b.found.length - (k + 1)))

theorem can_gain {b : Bk} (hv : BV b) (one : Nat) : ∀ (k : Nat) (a : List Int), canB b one k a = true → ∀ o : Nat, (o : Int) < b.dow → a[o]?.getD default ≤ gn b one o k
  | 0, a, h, o, ho => by
    simp only [canB, List.all_eq_true, List.mem_range, decide_eq_true_eq] at h
    have := h o (by omega)
    simpa [gn] using this
  | k + 1, a, h, o, ho => by
    have hd := hv.dw
    simp only [canB, List.any_eq_true] at h
    obtain ⟨x, hx, hc⟩ := h
    have h1 := can_gain hv one k _ hc o ho
    rw [addv_at (by omega) ho] at h1
    have h2 := mx_ge (f := dif one o) hx
    have h3 : dif one o x = - dif o one x := by unfold dif; omega
    simp only [gn]
    omega

end Go.Proofs.Ytmcfibpeenhcnaa


/- Between of the program. -/
set_option linter.unusedSimpArgs false
set_option linter.unusedVariables false
set_option linter.unnecessarySimpa false
namespace Go.Proofs.Ytmcfibpeenhcnaa
open Go Go.V

theorem ask_0 {b : Bk} {is : Bool} (h : askE b is = 0) : BV b ∧ is = true := by
  unfold askE at h
  cases hc : checkB b with
  | false => simp [hc] at h
  | true =>
    cases is with
    | false => simp [hc] at h
    | true => exact ⟨bv_of hc, rfl⟩

theorem ask_of {b : Bk} {is : Bool} (h : checkB b = true) (hi : is = true) : askE b is = 0 := by simp [askE, h, hi]

theorem dow_in {b : Bk} (hv : BV b) {d : Int} (h : within d 0 (w64 (b.dow - 1)) = true) : 0 ≤ d ∧ d < b.dow := by
  have hd := hv.dw
  rw [w64_id (by omega), within_iff] at h
  omega

theorem chA_at {b : Bk} {p i : Nat} (hi : i < (chA b p).length) : ∃ k, okD b p k ∧ (chA b p)[i]?.getD default = chL b p k := mem_chA.1 (getD_mem hi)
theorem chA_l4 {b : Bk} {p i : Nat} (hi : i < (chA b p).length) : ((chA b p)[i]?.getD default).length = 4 := by
  obtain ⟨k, _, e⟩ := chA_at hi
  rw [e]; exact chK_len b p k b.say.length
theorem chA_bd {b : Bk} (hv : BV b) (hn : b.say.length < 4294967296) {p : Nat} {x : List Int} (hx : x ∈ chA b p) {d : Nat} (hd : d < 4) : -51539607552 ≤ x[d]?.getD default ∧ x[d]?.getD default ≤ 51539607552 := by
  obtain ⟨k, _, rfl⟩ := mem_chA.1 hx
  rw [chL_at b p k hd]
  have := chS_bd hv p k (d : Nat) b.say.length (Nat.le_refl _)
  omega
theorem mnK_bd {f : List Int → Int} {l : List (List Int)} {lo hi : Int} (h0 : 0 < l.length) (h : ∀ x ∈ l, lo ≤ f x ∧ f x ≤ hi) {k : Nat} (hk : k ≤ l.length) : lo ≤ mnK f l k ∧ mnK f l k ≤ hi := by
  obtain ⟨j, h1, h2⟩ := mnK_at f l h0 k hk
  rw [h2]; exact h _ (getD_mem h1)
theorem mxK_bd {f : List Int → Int} {l : List (List Int)} {lo hi : Int} (h0 : 0 < l.length) (h : ∀ x ∈ l, lo ≤ f x ∧ f x ≤ hi) {k : Nat} (hk : k ≤ l.length) : lo ≤ mxK f l k ∧ mxK f l k ≤ hi := by
  obtain ⟨j, h1, h2⟩ := mxK_at f l h0 k hk
  rw [h2]; exact h _ (getD_mem h1)

theorem c68A (b : Bk) (hv : BV b) (hn : b.say.length < 4294967296) (p : Nat) (hp : p < b.found.length) : Ctr Try.prog 68 [OB b, .int p] (.sl 4 ((chA b p).map VL) .sh) := c68 b hv hn p hp b.depth.toNat (by have := hv.dp; omega)

theorem ag30 : aggOf Try.prog 30 = some true := by kernel_rfl
theorem sz30 : szOf Try.prog 30 = some 2 := by kernel_rfl
attribute [go_sem] ag30 sz30

def lowP (b : Bk) (d : Nat) (k : Nat) : Int := sumN (fun p => mn (fun x => x[d]?.getD default) (chA b p)) k
def higP (b : Bk) (d : Nat) (k : Nat) : Int := sumN (fun p => mx (fun x => x[d]?.getD default) (chA b p)) k

theorem lowP_bd {b : Bk} (hv : BV b) (hn : b.say.length < 4294967296) {d : Nat} (hd : d < 4) : ∀ k, k ≤ b.found.length → -309237645312 ≤ lowP b d k ∧ lowP b d k ≤ 309237645312 := by
  intro k hk
  have := sumN_bd (f := fun p => mn (fun x => x[d]?.getD default) (chA b p)) (lo := -51539607552) (hi := 51539607552) k fun p hp => mnK_bd (chA_pos hv (by omega)) (fun x hx => chA_bd hv hn hx hd) (Nat.le_refl _)
  have h6 := hv.fl
  unfold lowP
  omega
theorem higP_bd {b : Bk} (hv : BV b) (hn : b.say.length < 4294967296) {d : Nat} (hd : d < 4) : ∀ k, k ≤ b.found.length → -309237645312 ≤ higP b d k ∧ higP b d k ≤ 309237645312 := by
  intro k hk
  have := sumN_bd (f := fun p => mx (fun x => x[d]?.getD default) (chA b p)) (lo := -51539607552) (hi := 51539607552) k fun p hp => mxK_bd (chA_pos hv (by omega)) (fun x hx => chA_bd hv hn hx hd) (Nat.le_refl _)
  have h6 := hv.fl
  unfold higP
  omega

def btwR (b : Bk) (d : Int) : AV := let e := askE b (within d 0 (w64 (b.dow - 1))); .tup [.agg [.int (if e = 0 then lowB b d.toNat else 0), .int (if e = 0 then higB b d.toNat else 0)], .int e]

theorem c18 (b : Bk) (hn : b.say.length < 4294967296) (d : Int) : Ctr Try.prog 18 [DB b, .int d] (btwR b d) := by
  refine ctr_of_wp hmix Try.func18 m18 rfl ?_
  unfold v18 btwR
  simp -failIfUnchanged (disch := first | omega | (simp <;> omega) | fail) only [go_sem, simprocAttr]
  refine wcall (c67 b d) ?_
  simp -failIfUnchanged (disch := first | omega | (simp <;> omega) | fail) only [go_sem, simprocAttr]
  refine wcall (c66 b _ hn) ?_
  unfold opnR
  by_cases he : askE b (within d 0 (w64 (b.dow - 1))) = 0
  · obtain ⟨hv, hi⟩ := ask_0 he
    have hdi := dow_in hv hi
    have hdw := hv.dw
    have hfl := hv.fl
    obtain ⟨n, rfl⟩ : ∃ n : Nat, d = n := ⟨d.toNat, by omega⟩
    have hn4 : n < 4 := by omega
    rw [he]
    simp -failIfUnchanged (disch := first | omega | (simp <;> omega) | fail) only [go_sem, simprocAttr]
    refine wp_loop' Nat (fun p => ⟨[(1, .int n), (4, .ptr 4 0), (6, OB b), (8, .ptr 8 0), (28, .int b.found.length), (29, .int p)], [(4, ⟨[.int 0, .int 0], false⟩), (8, ⟨[.int (lowP b n p), .int (higP b n p)], false⟩)], [], none⟩) (fun p => p ≤ b.found.length) (fun p => b.found.length - p) 0 (by simp) (by simp -failIfUnchanged (disch := first | omega | (simp <;> omega) | fail) only [go_sem, simprocAttr]; simp [lowP, higP, sumN]) ?_
    intro p hp
    have hp : p ≤ b.found.length := hp
    simp -failIfUnchanged (disch := first | omega | (simp <;> omega) | fail) only [go_sem, simprocAttr]
    refine wcond_dec (fun hc => ?_) (fun hc => ?_)
    · have hpl : p < b.found.length := by omega
      simp -failIfUnchanged (disch := first | omega | (simp <;> omega) | fail) only [go_sem, simprocAttr]
      refine wcall (c68A b hv hn p hpl) ?_
      have hA0 := chA_pos hv hpl
      have hA12 := chA_len hv p
      have hA4 : ∀ i, i < (chA b p).length → ((chA b p)[i]?.getD default).length = 4 := fun i hi => chA_l4 hi
      have hlb := lowP_bd hv hn hn4 p (by omega)
      have hhb := higP_bd hv hn hn4 p (by omega)
      have hmb := mnK_bd (f := fun x => x[n]?.getD default) (l := chA b p) hA0 (fun x hx => chA_bd hv hn hx hn4) (Nat.le_refl _)
      have hxb := mxK_bd (f := fun x => x[n]?.getD default) (l := chA b p) hA0 (fun x hx => chA_bd hv hn hx hn4) (Nat.le_refl _)
      have hls : lowP b n (p + 1) = lowP b n p + mnK (fun x => x[n]?.getD default) (chA b p) (chA b p).length := rfl
      have hhs : higP b n (p + 1) = higP b n p + mxK (fun x => x[n]?.getD default) (chA b p) (chA b p).length := rfl
      generalize chA b p = A at *
      have h04 := hA4 0 hA0
      simp -failIfUnchanged (disch := first | omega | (simp <;> omega) | fail) only [go_sem, simprocAttr]
      refine wp_loop' Nat (fun i => ⟨[(1, .int n), (4, .ptr 4 0), (6, OB b), (8, .ptr 8 0), (11, .ptr 11 0), (28, .int b.found.length), (29, .int p), (46, .sl 4 (A.map VL) .sh), (47, .int A.length), (48, .int i)], [(4, ⟨[.int 0, .int 0], false⟩), (8, ⟨[.int (lowP b n p), .int (higP b n p)], false⟩), (11, ⟨[.int (mnK (fun x => x[n]?.getD default) A i), .int (mxK (fun x => x[n]?.getD default) A i)], false⟩)], [], none⟩) (fun i => i ≤ A.length) (fun i => A.length - i) 0 (by simp) (by simp -failIfUnchanged (disch := first | omega | (simp <;> omega) | fail) only [go_sem, simprocAttr]; simp [mnK, mxK]) ?_
      intro i hi
      have hi : i ≤ A.length := hi
      simp -failIfUnchanged (disch := first | omega | (simp <;> omega) | fail) only [go_sem, simprocAttr]
      refine wcond_dec (fun hc2 => ?_) (fun hc2 => ?_)
      · have hil : i < A.length := by omega
        have hi4 := hA4 i hil
        have htk : List.take 4 (List.map AV.int (A[i]?.getD default)) = List.map AV.int (A[i]?.getD default) := List.take_of_length_le (by simp; omega)
        simp -failIfUnchanged (disch := first | omega | (simp <;> omega) | fail) only [go_sem, simprocAttr, htk, hi4]
        refine ⟨i + 1, by dsimp only; omega, by dsimp only; omega, ?_⟩
        dsimp only [mnK, mxK]
        simp -failIfUnchanged (disch := first | omega | (simp <;> omega) | fail) only [go_sem, simprocAttr]
        try simp
      · have e : i = A.length := by omega
        subst e
        simp -failIfUnchanged (disch := first | omega | (simp <;> omega) | fail) only [go_sem, simprocAttr]
        refine ⟨p + 1, by dsimp only; omega, by dsimp only; omega, ?_⟩
        dsimp only
        rw [hls, hhs]
        simp -failIfUnchanged (disch := first | omega | (simp <;> omega) | fail) only [go_sem, simprocAttr]
        try simp
    · have e : p = b.found.length := by omega
      subst e
      simp -failIfUnchanged (disch := first | omega | (simp <;> omega) | fail) only [go_sem, simprocAttr]
      simp [lowP, lowB, higP, higB]
  · have hd1 : decide (¬ askE b (within d 0 (w64 (b.dow - 1))) = 0) = true := decide_eq_true he
    simp -failIfUnchanged (disch := first | omega | (simp <;> omega) | fail) only [go_sem, simprocAttr, hd1]
    simp [he]

end Go.Proofs.Ytmcfibpeenhcnaa


/- run: a race made ready. -/
set_option linter.unusedSimpArgs false
set_option linter.unusedVariables false
set_option linter.unnecessarySimpa false
namespace Go.Proofs.Ytmcfibpeenhcnaa
open Go Go.V

theorem cells_ref {sz i off : Nat} {l : List AV} : (AV.ref sz l i off).cells = [.ref sz l i off] := rfl
attribute [go_sem] cells_ref

abbrev CH (b : Bk) (p : Nat) : AV := .sl 4 ((chA b p).map VL) .sh
def gnL (b : Bk) (one : Nat) : List (List Int) := (List.range (b.found.length + 1)).map fun q => (List.range 4).map fun o : Nat => if ((o : Nat) : Int) < b.dow then gn b one o (b.found.length - q) else 0
/-- A race. -/
abbrev RC (b : Bk) (one : Nat) : AV := .ref 4 [.agg [OB b, .int one, .sl 1 ((List.range b.found.length).map (CH b)) .sh, .sl 4 ((gnL b one).map VL) .sh]] 0 0

def mdP : Nat → VM
  | 0 => .full
  | _ + 1 => .own 34
def tkP : Nat → TkL
  | 0 => []
  | k + 1 => [(34, k + 1)]
theorem mdP_0 : mdP 0 = .full := rfl
theorem mdP_s {k : Nat} : mdP (k + 1) = .own 34 := rfl
theorem tkP_0 : tkP 0 = [] := rfl
theorem tkP_s {k : Nat} : tkP (k + 1) = [(34, k + 1)] := rfl
theorem inS_mdP {fr : FrL} {hp : HpL} {pd : Option Ex} {P sz : Nat} {l : List AV} : inScope ⟨fr, hp, tkP P, pd⟩ (.sl sz l (mdP P)) = True := by
  cases P with
  | zero => rfl
  | succ k => simp [inScope, mdP, tkP, getT]
theorem leTk_tkP {τ : AS} {P : Nat} : leTk τ (tkP P) (tkP P) = True := by
  cases P with
  | zero => rfl
  | succ k => simp [leTk, tkP, getT]

/-- The gains of all places, one behind the other, so far as they are known. -/
def gcF (b : Bk) (one r j c : Nat) : Int := if (((c % 4 : Nat) : Int) < b.dow ∧ b.found.length - r ≤ c / 4) ∨ (c / 4 + 1 = b.found.length - r ∧ c % 4 < j) then gn b one (c % 4) (b.found.length - c / 4) else 0
def gcs (b : Bk) (one r j : Nat) : List Int := (List.range (4 * (b.found.length + 1))).map (gcF b one r j)
theorem gcs_len (b : Bk) (one r j : Nat) : (gcs b one r j).length = 4 * (b.found.length + 1) := by simp [gcs]
theorem gcs_get (b : Bk) (one r j c : Nat) (h : c < 4 * (b.found.length + 1)) : (gcs b one r j)[c]?.getD default = gcF b one r j c := by simp [gcs, h]

theorem gcs_0 (b : Bk) (one : Nat) : gcs b one 0 0 = List.replicate (4 * (b.found.length + 1)) 0 := by
  apply List.ext_getElem (by simp [gcs])
  intro c h1 h2
  simp only [gcs, List.length_map, List.length_range] at h1
  simp only [gcs, List.getElem_map, List.getElem_range, List.getElem_replicate, gcF]
  split
  · rename_i h
    have e : b.found.length - c / 4 = 0 := by omega
    rw [e]; rfl
  · rfl

theorem gcs_read (b : Bk) (one r j : Nat) (hr : r < b.found.length) (hj : (j : Int) < b.dow) (hd : b.dow ≤ 4) : (gcs b one r j)[(b.found.length - r) * 4 + j]?.getD default = gn b one j r := by
  rw [gcs_get _ _ _ _ _ (by omega)]
  unfold gcF
  rw [if_pos (.inl (by omega))]
  congr 1
  · omega
  · omega

theorem gcs_set (b : Bk) (one r j : Nat) (hr : r < b.found.length) (hj : (j : Int) < b.dow) (hd : b.dow ≤ 4) : (gcs b one r j).set ((b.found.length - (r + 1)) * 4 + j) (gn b one j (r + 1)) = gcs b one r (j + 1) := by
  apply List.ext_getElem (by simp [gcs])
  intro c h1 h2
  simp only [gcs, List.length_map, List.length_range] at h2
  rw [List.getElem_set]
  simp only [gcs, List.getElem_map, List.getElem_range]
  by_cases e : (b.found.length - (r + 1)) * 4 + j = c
  · rw [if_pos e]
    unfold gcF
    rw [if_pos (.inr (by omega))]
    congr 1
    · omega
    · omega
  · rw [if_neg e]
    unfold gcF
    by_cases h : (((c % 4 : Nat) : Int) < b.dow ∧ b.found.length - r ≤ c / 4) ∨ (c / 4 + 1 = b.found.length - r ∧ c % 4 < j)
    · rw [if_pos h, if_pos (by omega)]
    · rw [if_neg h, if_neg (by omega)]

theorem gcs_next (b : Bk) (one r j : Nat) (hr : r < b.found.length) (hj : (j : Int) = b.dow) : gcs b one r j = gcs b one (r + 1) 0 := by
  unfold gcs
  apply List.map_congr_left
  intro c hc
  have hc := List.mem_range.1 hc
  unfold gcF
  by_cases h : (((c % 4 : Nat) : Int) < b.dow ∧ b.found.length - r ≤ c / 4) ∨ (c / 4 + 1 = b.found.length - r ∧ c % 4 < j)
  · rw [if_pos h, if_pos (by omega)]
  · rw [if_neg h, if_neg (by omega)]

theorem gcs_chunks (b : Bk) (one : Nat) : chunks true 4 ((gcs b one b.found.length 0).map AV.int) 0 (b.found.length + 1) = (gnL b one).map VL := by
  apply List.ext_getElem?
  intro q
  rcases Nat.lt_or_ge q (b.found.length + 1) with hq | hq
  · rw [chunks_get _ _ _ _ _ _ hq]
    simp only [gnL, List.map_map, List.getElem?_map, List.getElem?_range hq, Option.map_some, Function.comp, Option.some.injEq, chunk, if_true, VL, AV.agg.injEq]
    apply List.ext_getElem
    · simp [gcs_len]; omega
    · intro o h1 h2
      simp only [List.length_map, List.length_range] at h2
      simp only [List.getElem_take, List.getElem_drop, List.getElem_map, gcs, List.getElem_range, AV.int.injEq, gcF, Function.comp]
      by_cases hd : (o : Int) < b.dow
      · rw [if_pos hd, if_pos (.inl (by omega))]
        congr 1
        · omega
        · omega
      · rw [if_neg hd, if_neg (by omega)]
  · rw [List.getElem?_eq_none (by rw [chunks_length]; exact hq), List.getElem?_eq_none (by simpa [gnL] using hq)]

theorem gn_bd {b : Bk} (hv : BV b) (hn : b.say.length < 4294967296) {one o : Nat} (h1 : one < 4) (h2 : o < 4) : ∀ k, k ≤ b.found.length → -(103079215104 * (k : Int)) ≤ gn b one o k ∧ gn b one o k ≤ 103079215104 * (k : Int)
  | 0, _ => by simp [gn]
  | k + 1, hk => by
    have ih := gn_bd hv hn h1 h2 k (by omega)
    have := mxK_bd (f := dif one o) (l := chA b (b.found.length - (k + 1))) (lo := -103079215104) (hi := 103079215104) (chA_pos hv (by omega)) (fun x hx => by
      have a1 := chA_bd hv hn hx h1
      have a2 := chA_bd hv hn hx h2
      unfold dif; omega) (Nat.le_refl _)
    simp only [gn, mx]
    omega

theorem zeros4 (n : Nat) : zeros [.int 0, .int 0, .int 0, .int 0] n = (List.replicate (4 * n) (0 : Int)).map .int := by
  induction n with
  | zero => rfl
  | succ n ih =>
    rw [show 4 * (n + 1) = 4 * n + 1 + 1 + 1 + 1 by omega]
    simp only [zeros, ih, List.replicate_succ, List.map_cons]
    rfl

theorem c91 (b : Bk) (hv : BV b) (hn : b.say.length < 4294967296) (one : Nat) (ho : (one : Int) < b.dow) : Ctr Try.prog 91 [OB b, .int one] (RC b one) := by
  refine ctr_of_wp hmix Try.func91 m91 rfl ?_
  unfold v91
  have hdw := hv.dw
  have hfl := hv.fl
  simp -failIfUnchanged (disch := first | omega | (simp <;> omega) | fail) only [go_sem, simprocAttr]
  refine wp_loop' Nat (fun p => ⟨[(0, OB b), (1, .int one), (5, .ptr 15 0), (21, .int b.found.length), (22, .int p)], [(15, ⟨[OB b, .int one, .sl 1 ((List.range p).map (CH b)) (mdP p), .sl 4 [] .full], false⟩)], tkP p, none⟩) (fun p => p ≤ b.found.length) (fun p => b.found.length - p) 0 (by simp) (by simp -failIfUnchanged (disch := first | omega | (simp <;> omega) | fail) only [go_sem, simprocAttr, mdP_0, tkP_0, List.range_zero]; try simp) ?_
  intro p hp
  have hp : p ≤ b.found.length := hp
  simp -failIfUnchanged (disch := first | omega | (simp <;> omega) | fail) only [go_sem, simprocAttr]
  refine wcond_dec (fun hc => ?_) (fun hc => ?_)
  · have hpl : p < b.found.length := by omega
    cases p with
    | zero =>
      simp -failIfUnchanged (disch := first | omega | (simp <;> omega) | fail) only [go_sem, simprocAttr, mdP_0, tkP_0]
      refine wcall (c68A b hv hn 0 hpl) ?_
      simp -failIfUnchanged (disch := first | omega | (simp <;> omega) | fail) only [go_sem, simprocAttr, mdP_0, tkP_0]
      refine ⟨1, by dsimp only; omega, by dsimp only; omega, ?_⟩
      simp -failIfUnchanged (disch := first | omega | (simp <;> omega) | fail) only [go_sem, simprocAttr, mdP_s, tkP_s]
      simp
    | succ k =>
      simp -failIfUnchanged (disch := first | omega | (simp <;> omega) | fail) only [go_sem, simprocAttr, mdP_s, tkP_s, List.length_range]
      refine wcall (c68A b hv hn (k + 1) hpl) ?_
      simp -failIfUnchanged (disch := first | omega | (simp <;> omega) | fail) only [go_sem, simprocAttr, mdP_s, tkP_s, List.length_range]
      refine ⟨k + 2, by dsimp only; omega, by dsimp only; omega, ?_⟩
      simp -failIfUnchanged (disch := first | omega | (simp <;> omega) | fail) only [go_sem, simprocAttr, mdP_s, tkP_s, List.length_range]
      simp [List.range_succ]
      omega
  · have e : p = b.found.length := by omega
    subst e
    have hz := zeros4 (b.found.length + 1)
    rw [← gcs_0 b one] at hz
    simp -failIfUnchanged (disch := first | omega | (simp <;> omega) | fail) only [go_sem, simprocAttr, hz]
    generalize hM : mdP b.found.length = M
    generalize hT : tkP b.found.length = T
    have hS : ∀ {fr : FrL} {hp : HpL} {pd : Option Ex} {sz : Nat} {l : List AV}, inScope ⟨fr, hp, T, pd⟩ (.sl sz l M) = True := by rw [← hM, ← hT]; exact inS_mdP
    have hL : ∀ {τ : AS}, leTk τ T T = True := by rw [← hT]; exact leTk_tkP
    refine wp_loop' Nat (fun r => ⟨[(0, OB b), (1, .int one), (5, .ptr 15 0), (7, .int ((b.found.length : Int) - 1 - r))], [(46, ⟨(gcs b one r 0).map .int, false⟩), (15, ⟨[OB b, .int one, .sl 1 ((List.range b.found.length).map (CH b)) M, .bsl 46 0 4 (b.found.length + 1) true], false⟩)], T, none⟩) (fun r => r ≤ b.found.length) (fun r => b.found.length - r) 0 (by simp) (by simp -failIfUnchanged (disch := first | omega | (simp <;> omega) | fail) only [go_sem, simprocAttr, hS, hL]; try simp) ?_
    intro r hr
    have hr : r ≤ b.found.length := hr
    simp -failIfUnchanged (disch := first | omega | (simp <;> omega) | fail) only [go_sem, simprocAttr]
    refine wcond_dec (fun hc => ?_) (fun hc => ?_)
    · have hrl : r < b.found.length := by omega
      obtain ⟨q, hq⟩ : ∃ q, b.found.length - (r + 1) = q := ⟨_, rfl⟩
      have hqi : (b.found.length : Int) - 1 - r = (q : Nat) := by omega
      have hql : q < b.found.length := by omega
      obtain ⟨dw, hdwn⟩ : ∃ dw : Nat, b.dow = dw := ⟨b.dow.toNat, by omega⟩
      simp -failIfUnchanged (disch := first | omega | (simp <;> omega) | fail) only [go_sem, simprocAttr, hdwn, hqi]
      refine wp_loop' Nat (fun j => ⟨[(0, OB b), (1, .int one), (5, .ptr 15 0), (7, .int q), (64, .int dw), (65, .int j)], [(46, ⟨(gcs b one r j).map .int, false⟩), (15, ⟨[OB b, .int one, .sl 1 ((List.range b.found.length).map (CH b)) M, .bsl 46 0 4 (b.found.length + 1) true], false⟩)], T, none⟩) (fun j => j ≤ dw) (fun j => dw - j) 0 (by simp) (by simp -failIfUnchanged (disch := first | omega | (simp <;> omega) | fail) only [go_sem, simprocAttr, hS, hL]; try simp) ?_
      intro j hj
      have hj : j ≤ dw := hj
      simp -failIfUnchanged (disch := first | omega | (simp <;> omega) | fail) only [go_sem, simprocAttr]
      refine wcond_dec (fun hc2 => ?_) (fun hc2 => ?_)
      · have hjl : j < dw := by omega
        have hA0 := chA_pos hv hql
        have hA12 := chA_len hv q
        have hA4 : ∀ i, i < (chA b q).length → ((chA b q)[i]?.getD default).length = 4 := fun i hi => chA_l4 hi
        have h04 := hA4 0 hA0
        have hrg : (List.range b.found.length)[q]?.getD default = q := by simp [hql]
        have hb1 : ∀ i, i < (chA b q).length → ∀ d, d < 4 → -51539607552 ≤ ((chA b q)[i]?.getD default)[d]?.getD default ∧ ((chA b q)[i]?.getD default)[d]?.getD default ≤ 51539607552 := fun i hi d hd => chA_bd hv hn (getD_mem hi) hd
        have b1 := hb1 0 hA0 one (by omega)
        have b2 := hb1 0 hA0 j (by omega)
        simp -failIfUnchanged (disch := first | omega | (simp <;> omega) | fail) only [go_sem, simprocAttr, List.length_range, hrg]
        refine wp_loop' Nat (fun i => ⟨[(0, OB b), (1, .int one), (5, .ptr 15 0), (7, .int q), (8, .int j), (9, .int (mxK (dif one j) (chA b q) i)), (64, .int dw), (65, .int j), (97, CH b q), (98, .int (chA b q).length), (99, .int i)], [(46, ⟨(gcs b one r j).map .int, false⟩), (15, ⟨[OB b, .int one, .sl 1 ((List.range b.found.length).map (CH b)) M, .bsl 46 0 4 (b.found.length + 1) true], false⟩)], T, none⟩) (fun i => i ≤ (chA b q).length) (fun i => (chA b q).length - i) 0 (by simp) (by simp -failIfUnchanged (disch := first | omega | (simp <;> omega) | fail) only [go_sem, simprocAttr, hS, hL]; try simp [mxK, dif]) ?_
        intro i hi
        have hi : i ≤ (chA b q).length := hi
        simp -failIfUnchanged (disch := first | omega | (simp <;> omega) | fail) only [go_sem, simprocAttr]
        refine wcond_dec (fun hc3 => ?_) (fun hc3 => ?_)
        · have hil : i < (chA b q).length := by omega
          have hi4 := hA4 i hil
          have htk : List.take 4 (List.map AV.int ((chA b q)[i]?.getD default)) = List.map AV.int ((chA b q)[i]?.getD default) := List.take_of_length_le (by simp; omega)
          have b3 := hb1 i hil one (by omega)
          have b4 := hb1 i hil j (by omega)
          simp -failIfUnchanged (disch := first | omega | (simp <;> omega) | fail) only [go_sem, simprocAttr, htk, hi4]
          refine ⟨i + 1, by dsimp only; omega, by dsimp only; omega, ?_⟩
          dsimp only [mxK, dif]
          simp -failIfUnchanged (disch := first | omega | (simp <;> omega) | fail) only [go_sem, simprocAttr, hS, hL]
          try simp
        · have e : i = (chA b q).length := by omega
          subst e
          have hgl := gcs_len b one r j
          have hrd : (gcs b one r j)[(q + 1) * 4 + j]?.getD default = gn b one j r := by
            have := gcs_read b one r j hrl (by omega) (by omega)
            rwa [show b.found.length - r = q + 1 by omega] at this
          have hset : (gcs b one r j).set (q * 4 + j) (gn b one j (r + 1)) = gcs b one r (j + 1) := by
            have := gcs_set b one r j hrl (by omega) (by omega)
            rwa [hq] at this
          have hg : gn b one j r + mxK (dif one j) (chA b q) (chA b q).length = gn b one j (r + 1) := by
            show _ = gn b one j r + mx (dif one j) (chA b (b.found.length - (r + 1)))
            rw [hq]
            rfl
          have hgb := gn_bd hv hn (one := one) (o := j) (by omega) (by omega) (r + 1) (by omega)
          have hw : w64 (gn b one j (r + 1)) = gn b one j (r + 1) := w64_id (by omega)
          simp -failIfUnchanged (disch := first | omega | (simp <;> omega) | fail) only [go_sem, simprocAttr, hgl, hrd, hg, hw, hset]
          refine ⟨j + 1, by dsimp only; omega, by dsimp only; omega, ?_⟩
          simp -failIfUnchanged (disch := first | omega | (simp <;> omega) | fail) only [go_sem, simprocAttr, hS, hL]
          try simp
      · have e : j = dw := by omega
        subst e
        simp -failIfUnchanged (disch := first | omega | (simp <;> omega) | fail) only [go_sem, simprocAttr]
        refine ⟨r + 1, by dsimp only; omega, by dsimp only; omega, ?_⟩
        have hnx := gcs_next b one r j hrl hdwn.symm
        rw [hnx]
        simp -failIfUnchanged (disch := first | omega | (simp <;> omega) | fail) only [go_sem, simprocAttr, hS, hL]
        omega
    · have e : r = b.found.length := by omega
      subst e
      simp -failIfUnchanged (disch := first | omega | (simp <;> omega) | fail) only [go_sem, simprocAttr]
      refine wopsN [46] ?_
      have hcnd : (b.found.length + 1) * 4 ≤ (gcs b one b.found.length 0).length := by rw [gcs_len]; omega
      simp -failIfUnchanged (disch := first | omega | (simp <;> omega) | fail) only [go_sem, simprocAttr, hcnd, gcs_chunks]

end Go.Proofs.Ytmcfibpeenhcnaa


/- surely. -/
set_option linter.unusedSimpArgs false
set_option linter.unusedVariables false
set_option linter.unnecessarySimpa false
namespace Go.Proofs.Ytmcfibpeenhcnaa
open Go Go.V

def wsP (b : Bk) (one o k : Nat) : Int := sumN (fun p => mx (dif o one) (chA b p)) k
theorem dif_bd {b : Bk} (hv : BV b) (hn : b.say.length < 4294967296) {one o p : Nat} (h1 : one < 4) (h2 : o < 4) {x : List Int} (hx : x ∈ chA b p) : -103079215104 ≤ dif o one x ∧ dif o one x ≤ 103079215104 := by
  have a1 := chA_bd hv hn hx h1
  have a2 := chA_bd hv hn hx h2
  unfold dif; omega
theorem wsP_bd {b : Bk} (hv : BV b) (hn : b.say.length < 4294967296) {one o : Nat} (h1 : one < 4) (h2 : o < 4) : ∀ k, k ≤ b.found.length → -618475290624 ≤ wsP b one o k ∧ wsP b one o k ≤ 618475290624 := by
  intro k hk
  have := sumN_bd (f := fun p => mx (dif o one) (chA b p)) (lo := -103079215104) (hi := 103079215104) k fun p hp => mxK_bd (chA_pos hv (by omega)) (fun x hx => dif_bd hv hn h1 h2 hx) (Nat.le_refl _)
  have h6 := hv.fl
  unfold wsP
  omega

theorem c92 (b : Bk) (hv : BV b) (hn : b.say.length < 4294967296) (one : Nat) (ho : (one : Int) < b.dow) : Ctr Try.prog 92 [RC b one] (.bool (surelyB b one)) := by
  refine ctr_of_wp hmix Try.func92 m92 rfl ?_
  unfold v92
  have hdw := hv.dw
  have hfl := hv.fl
  obtain ⟨dw, hdwn⟩ : ∃ dw : Nat, b.dow = dw := ⟨b.dow.toNat, by omega⟩
  have hsb : surelyB b one = (List.range dw).all fun o => decide (worst b one o ≤ 0) := by unfold surelyB; rw [hdwn]; rfl
  rw [hsb]
  simp -failIfUnchanged (disch := first | omega | (simp <;> omega) | fail) only [go_sem, simprocAttr, hdwn]
  refine wp_loop' Nat (fun o => ⟨[(0, RC b one), (17, .int dw), (18, .int o)], [], [], none⟩) (fun o => o ≤ dw ∧ ∀ j, j < o → worst b one j ≤ 0) (fun o => dw - o) 0 (by simp) (by simp -failIfUnchanged (disch := first | omega | (simp <;> omega) | fail) only [go_sem, simprocAttr]; try simp) ?_
  rintro o ⟨hol, hpre⟩
  simp -failIfUnchanged (disch := first | omega | (simp <;> omega) | fail) only [go_sem, simprocAttr]
  refine wcond_dec (fun hc => ?_) (fun hc => ?_)
  · have hlt : o < dw := by omega
    simp -failIfUnchanged (disch := first | omega | (simp <;> omega) | fail) only [go_sem, simprocAttr]
    refine wp_loop' Nat (fun p => ⟨[(0, RC b one), (3, .int o), (4, .int (wsP b one o p)), (17, .int dw), (18, .int o), (24, .sl 1 ((List.range b.found.length).map (CH b)) .sh), (25, .int b.found.length), (26, .int p)], [], [], none⟩) (fun p => p ≤ b.found.length) (fun p => b.found.length - p) 0 (by simp) (by simp -failIfUnchanged (disch := first | omega | (simp <;> omega) | fail) only [go_sem, simprocAttr, List.length_range]; simp [wsP, sumN]) ?_
    intro p hp
    have hp : p ≤ b.found.length := hp
    simp -failIfUnchanged (disch := first | omega | (simp <;> omega) | fail) only [go_sem, simprocAttr]
    refine wcond_dec (fun hc2 => ?_) (fun hc2 => ?_)
    · have hpl : p < b.found.length := by omega
      have hA0 := chA_pos hv hpl
      have hA12 := chA_len hv p
      have hA4 : ∀ i, i < (chA b p).length → ((chA b p)[i]?.getD default).length = 4 := fun i hi => chA_l4 hi
      have h04 := hA4 0 hA0
      have hrg : (List.range b.found.length)[p]?.getD default = p := by simp [hpl]
      have hb1 : ∀ i, i < (chA b p).length → ∀ d, d < 4 → -51539607552 ≤ ((chA b p)[i]?.getD default)[d]?.getD default ∧ ((chA b p)[i]?.getD default)[d]?.getD default ≤ 51539607552 := fun i hi d hd => chA_bd hv hn (getD_mem hi) hd
      have b1 := hb1 0 hA0 one (by omega)
      have b2 := hb1 0 hA0 o (by omega)
      simp -failIfUnchanged (disch := first | omega | (simp <;> omega) | fail) only [go_sem, simprocAttr, List.length_range, hrg]
      refine wp_loop' Nat (fun i => ⟨[(0, RC b one), (3, .int o), (4, .int (wsP b one o p)), (7, .int (mxK (dif o one) (chA b p) i)), (17, .int dw), (18, .int o), (24, .sl 1 ((List.range b.found.length).map (CH b)) .sh), (25, .int b.found.length), (26, .int p), (44, CH b p), (45, .int (chA b p).length), (46, .int i)], [], [], none⟩) (fun i => i ≤ (chA b p).length) (fun i => (chA b p).length - i) 0 (by simp) (by simp -failIfUnchanged (disch := first | omega | (simp <;> omega) | fail) only [go_sem, simprocAttr]; try simp [mxK, dif]) ?_
      intro i hi
      have hi : i ≤ (chA b p).length := hi
      simp -failIfUnchanged (disch := first | omega | (simp <;> omega) | fail) only [go_sem, simprocAttr]
      refine wcond_dec (fun hc3 => ?_) (fun hc3 => ?_)
      · have hil : i < (chA b p).length := by omega
        have hi4 := hA4 i hil
        have htk : List.take 4 (List.map AV.int ((chA b p)[i]?.getD default)) = List.map AV.int ((chA b p)[i]?.getD default) := List.take_of_length_le (by simp; omega)
        have b3 := hb1 i hil one (by omega)
        have b4 := hb1 i hil o (by omega)
        simp -failIfUnchanged (disch := first | omega | (simp <;> omega) | fail) only [go_sem, simprocAttr, htk, hi4]
        refine ⟨i + 1, by dsimp only; omega, by dsimp only; omega, ?_⟩
        dsimp only [mxK, dif]
        simp -failIfUnchanged (disch := first | omega | (simp <;> omega) | fail) only [go_sem, simprocAttr]
        try simp
      · have e : i = (chA b p).length := by omega
        subst e
        have hs : wsP b one o p + mxK (dif o one) (chA b p) (chA b p).length = wsP b one o (p + 1) := rfl
        have hwb := wsP_bd hv hn (one := one) (o := o) (by omega) (by omega) (p + 1) (by omega)
        have hw : w64 (wsP b one o (p + 1)) = wsP b one o (p + 1) := w64_id (by omega)
        simp -failIfUnchanged (disch := first | omega | (simp <;> omega) | fail) only [go_sem, simprocAttr, hs, hw]
        refine ⟨p + 1, by dsimp only; omega, by dsimp only; omega, ?_⟩
        simp -failIfUnchanged (disch := first | omega | (simp <;> omega) | fail) only [go_sem, simprocAttr]
        try simp
    · have e : p = b.found.length := by omega
      subst e
      have hws : wsP b one o b.found.length = worst b one o := rfl
      simp -failIfUnchanged (disch := first | omega | (simp <;> omega) | fail) only [go_sem, simprocAttr, hws]
      refine wcond_dec (fun h3 => ?_) (fun h3 => ?_)
      · have key : ((List.range dw).all fun o => decide (worst b one o ≤ 0)) = false := List.all_eq_false.2 ⟨o, List.mem_range.2 hlt, by simp; omega⟩
        rw [key]
        simp -failIfUnchanged (disch := first | omega | (simp <;> omega) | fail) only [go_sem, simprocAttr]
      · simp -failIfUnchanged (disch := first | omega | (simp <;> omega) | fail) only [go_sem, simprocAttr]
        refine ⟨o + 1, ⟨by omega, fun j hj => ?_⟩, by dsimp only; omega, ?_⟩
        · rcases Nat.lt_or_ge j o with h4 | h4
          · exact hpre j h4
          · obtain rfl : j = o := by omega
            omega
        · simp -failIfUnchanged (disch := first | omega | (simp <;> omega) | fail) only [go_sem, simprocAttr]
          try simp
  · have e : o = dw := by omega
    subst e
    have key : ((List.range o).all fun o => decide (worst b one o ≤ 0)) = true := List.all_eq_true.2 fun j hj => decide_eq_true (hpre j (List.mem_range.1 hj))
    rw [key]
    simp -failIfUnchanged (disch := first | omega | (simp <;> omega) | fail) only [go_sem, simprocAttr]

end Go.Proofs.Ytmcfibpeenhcnaa


/- may: a map that says what has failed. -/
set_option linter.unusedSimpArgs false
set_option linter.unusedVariables false
set_option linter.unnecessarySimpa false
namespace Go.Proofs.Ytmcfibpeenhcnaa
open Go Go.V

theorem tidy_mpr {hp : HpL} {l : Nat} : tidy hp (.mpr l) = .mpr l := rfl
theorem tidy_nilp {hp : HpL} : tidy hp .nilp = .nilp := rfl
attribute [go_sem] tidy_mpr tidy_nilp

/-- What the map says: with these one cannot lead. -/
def mInv (b : Bk) (one : Nat) (kv : List (List Int × Int)) : Prop := ∀ xs, kvget kv xs = 0 ∨ (kvget kv xs = 1 ∧ ∃ (k : Nat) (a : List Int), k ≤ b.found.length ∧ xs = ((b.found.length - k : Nat) : Int) :: a ∧ canB b one k a = false)

/-- How far all are ahead, the first j with one more choice. -/
def nxK (one : Nat) (a x : List Int) (j : Nat) : List Int := (List.range 4).map fun o => if o < j then a[o]?.getD default + dif o one x else a[o]?.getD default
theorem nxK_len (one : Nat) (a x : List Int) (j : Nat) : (nxK one a x j).length = 4 := by simp [nxK]
theorem nxK_0 (one : Nat) (a x : List Int) (h : a.length = 4) : nxK one a x 0 = a := by
  apply List.ext_getElem (by simp [nxK, h])
  intro i h1 h2
  simp [nxK, h2]
theorem nxK_at (one : Nat) (a x : List Int) (j : Nat) (h : j < 4) : (nxK one a x j)[j]?.getD default = a[j]?.getD default := by simp [nxK, h]
theorem nxK_set (one : Nat) (a x : List Int) (j : Nat) (h : j < 4) : (nxK one a x j).set j (a[j]?.getD default + dif j one x) = nxK one a x (j + 1) := by
  apply List.ext_getElem (by simp [nxK])
  intro i h1 h2
  rw [List.getElem_set]
  simp only [nxK, List.getElem_map, List.getElem_range]
  by_cases e : j = i
  · subst e
    rw [if_pos rfl, if_pos (by omega)]
  · rw [if_neg e]
    by_cases h3 : i < j
    · rw [if_pos h3, if_pos (by omega)]
    · rw [if_neg h3, if_neg (by omega)]
theorem nxK_addv (b : Bk) (one : Nat) (a x : List Int) {dw : Nat} (h : b.dow = dw) : nxK one a x dw = addv b one a x := by
  unfold nxK addv
  apply List.map_congr_left
  intro o _
  by_cases e : o < dw
  · rw [if_pos e, if_pos (by omega)]
  · rw [if_neg e, if_neg (by omega)]

def aBd (a : List Int) (n : Nat) : Prop := a.length = 4 ∧ ∀ o, o < 4 → -(103079215104 * (n : Int)) ≤ a[o]?.getD default ∧ a[o]?.getD default ≤ 103079215104 * (n : Int)

theorem aBd_add {b : Bk} (hv : BV b) (hn : b.say.length < 4294967296) {one p : Nat} (h1 : one < 4) {a x : List Int} (hx : x ∈ chA b p) {n : Nat} (h : aBd a n) : aBd (addv b one a x) (n + 1) := by
  refine ⟨by simp [addv], fun o ho => ?_⟩
  have h2 := h.2 o ho
  have h3 := dif_bd hv hn h1 ho hx
  have e : (addv b one a x)[o]?.getD default = if (o : Int) < b.dow then a[o]?.getD default + dif o one x else a[o]?.getD default := by simp [addv, ho]
  rw [e]
  split <;> omega

theorem gnL_at (b : Bk) (one q : Nat) (hq : q ≤ b.found.length) : ∃ G, (gnL b one)[q]?.getD default = G ∧ G.length = 4 ∧ ∀ o : Nat, (o : Int) < b.dow → o < 4 → G[o]?.getD default = gn b one o (b.found.length - q) := by
  refine ⟨_, rfl, ?_, fun o h1 h2 => ?_⟩
  · simp [gnL, show q < b.found.length + 1 by omega]
  · simp [gnL, show q < b.found.length + 1 by omega, h2, h1]

theorem gnL_len (b : Bk) (one : Nat) : (gnL b one).length = b.found.length + 1 := by simp [gnL]

def mayQ (b : Bk) (one l q : Nat) (r : Bool) (kv : List (List Int × Int)) : AV → HpL → TkL → Option Ex → Prop := fun v _ _ pd' =>
  v = .bool r ∧ ∃ kv', pd' = some (.mp l 5 kv') ∧ mInv b one kv' ∧ ∀ (p : Nat) (a : List Int), p < q → kvget kv' ((p : Int) :: a) = kvget kv ((p : Int) :: a)

theorem c93w (b : Bk) (hv : BV b) (hn : b.say.length < 4294967296) (one : Nat) (ho : (one : Int) < b.dow) (l : Nat) (k : Nat) (hk : k ≤ b.found.length)
    (ih : ∀ k', k = k' + 1 → ∀ (a : List Int) (kv : List (List Int × Int)) (X : List FrL), aBd a (b.found.length - k') → mInv b one kv → leX ⟨[], [], [], none⟩ X →
    CSem ⟨Try.prog, X, none, false⟩ 93 [RC b one, .agg ((((b.found.length - k' : Nat) : Int) :: a).map .int), .mpr l] [] [] (some (.mp l 5 kv)) (mayQ b one l (b.found.length - k') (canB b one k' a) kv))
    (a : List Int) (kv : List (List Int × Int)) (X : List FrL) (ha : aBd a (b.found.length - k)) (hI : mInv b one kv) (hX : leX ⟨[], [], [], none⟩ X) :
    CSem ⟨Try.prog, X, none, false⟩ 93 [RC b one, .agg ((((b.found.length - k : Nat) : Int) :: a).map .int), .mpr l] [] [] (some (.mp l 5 kv)) (mayQ b one l (b.found.length - k) (canB b one k a) kv) := by
  obtain ⟨q, hq⟩ : ∃ q, b.found.length - k = q := ⟨_, rfl⟩
  rw [hq] at ha ⊢
  refine csem_of_wp hmix Try.func93 m93 rfl rfl ?_
  unfold v93
  have hXx : ∀ τ : AS, leX τ X := fun τ => leX_none rfl rfl hX
  have hdw := hv.dw
  have hfl := hv.fl
  obtain ⟨dw, hdwn⟩ : ∃ dw : Nat, b.dow = dw := ⟨b.dow.toNat, by omega⟩
  obtain ⟨S, hS⟩ : ∃ S : List Int, (q : Int) :: a = S := ⟨_, rfl⟩
  have hSl : S.length = 5 := by rw [← hS]; simp [ha.1]
  have hS0 : (S[0]?.getD default : Int) = (q : Int) := by rw [← hS]; rfl
  have hS1 : ∀ o : Nat, S[1 + o]?.getD default = a[o]?.getD default := fun o => by rw [← hS, Nat.add_comm]; rfl
  have htk5 : List.take 5 (List.map AV.int S) = List.map AV.int S := List.take_of_length_le (by simp; omega)
  rw [hS]
  simp -failIfUnchanged (disch := first | omega | (simp <;> omega) | fail) only [go_sem, simprocAttr, hSl]
  refine wopsN [4] ?_
  simp -failIfUnchanged (disch := first | omega | (simp <;> omega) | fail) only [go_sem, simprocAttr, hSl, hdwn]
  refine wp_loopY Nat (fun o => ⟨[(0, RC b one), (2, .mpr l), (4, .ref 5 [.agg (S.map .int)] 0 0), (19, .int dw), (20, .int o)], [], [], some (.mp l 5 kv)⟩) (fun o => o ≤ dw ∧ ∀ j, j < o → a[j]?.getD default ≤ gn b one j k) (fun o => dw - o) 0 (by simp) (by simp -failIfUnchanged (disch := first | omega | (simp <;> omega) | fail) only [go_sem, simprocAttr, hSl]; try simp) (fun x => hXx _) ?_
  rintro o ⟨hol, hpre⟩
  simp -failIfUnchanged (disch := first | omega | (simp <;> omega) | fail) only [go_sem, simprocAttr]
  refine wcond_dec (fun hc => ?_) (fun hc => ?_)
  · have hlt : o < dw := by omega
    obtain ⟨G, hG, hGl, hGo⟩ := gnL_at b one q (by omega)
    have hGo' := hGo o (by omega) (by omega)
    rw [show b.found.length - q = k by omega] at hGo'
    have hgl := gnL_len b one
    have hs1 := hS1 o
    simp -failIfUnchanged (disch := first | omega | (simp <;> omega) | fail) only [go_sem, simprocAttr, hSl, hS0, hs1, hG, hGl, hGo', hgl]
    refine wcond_dec (fun h7 => ?_) (fun h7 => ?_)
    · have hcf : canB b one k a = false := by
        cases hcb : canB b one k a with
        | false => rfl
        | true =>
          have := can_gain hv one k a hcb o (by omega)
          omega
      simp -failIfUnchanged (disch := first | omega | (simp <;> omega) | fail) only [go_sem, simprocAttr]
      rw [hcf]
      exact ⟨rfl, kv, rfl, hI, fun _ _ _ => rfl⟩
    · simp -failIfUnchanged (disch := first | omega | (simp <;> omega) | fail) only [go_sem, simprocAttr]
      refine lpy_norm (fun x => hXx _) ⟨o + 1, ⟨by omega, fun j hj => ?_⟩, by omega, ?_⟩
      · rcases Nat.lt_or_ge j o with h4 | h4
        · exact hpre j h4
        · obtain rfl : j = o := by omega
          omega
      · simp -failIfUnchanged (disch := first | omega | (simp <;> omega) | fail) only [go_sem, simprocAttr]
        try simp
  · have e : dw = o := by omega
    subst e
    have hlr : (List.range b.found.length).length = b.found.length := List.length_range
    have hql : q ≤ b.found.length := by omega
    simp -failIfUnchanged (disch := first | omega | (simp <;> omega) | fail) only [go_sem, simprocAttr, hSl, hS0, hlr]
    by_cases hk0 : k = 0
    · subst hk0
      have hqe : decide ((q : Int) = b.found.length) = true := decide_eq_true (by omega)
      have hct : canB b one 0 a = true := by
        simp only [canB, List.all_eq_true, List.mem_range, decide_eq_true_eq]
        intro j hj
        exact hpre j (by omega)
      simp -failIfUnchanged (disch := first | omega | (simp <;> omega) | fail) only [go_sem, simprocAttr, hqe]
      rw [hct]
      exact ⟨rfl, kv, rfl, hI, fun _ _ _ => rfl⟩
    · obtain ⟨k', rfl⟩ : ∃ k', k = k' + 1 := ⟨k - 1, by omega⟩
      have ih := ih k' rfl
      have hqe : decide ((q : Int) = b.found.length) = false := decide_eq_false (by omega)
      have hSr : ∀ y ∈ S, inR y := by
        intro y hy
        rw [← hS] at hy
        rcases List.mem_cons.1 hy with rfl | hy
        · unfold inR; omega
        · obtain ⟨o, h1, rfl⟩ := List.getElem_of_mem hy
          have h2 := ha.2 o (by have := ha.1; omega)
          rw [List.getElem?_eq_getElem h1] at h2
          have h3 : a[o] = (some a[o]).getD default := rfl
          unfold inR; omega
      have hA : chA b (b.found.length - (k' + 1)) = chA b q := by rw [hq]
      simp -failIfUnchanged (disch := first | omega | (simp <;> omega) | fail) only [go_sem, simprocAttr, hqe, htk5, hSl]
      refine wmlook mk119 hSl hSr ?_
      rcases hI S with h0 | ⟨h1, k2, a2, hk2, hS2, hc2⟩
      · simp -failIfUnchanged (disch := first | omega | (simp <;> omega) | fail) only [go_sem, simprocAttr, h0]
        have hqlt : q < b.found.length := by omega
        have hrg : (List.range b.found.length)[q]?.getD default = q := by simp [hqlt]
        have hA0 := chA_pos hv hqlt
        have hA12 := chA_len hv q
        simp -failIfUnchanged (disch := first | omega | (simp <;> omega) | fail) only [go_sem, simprocAttr, hS0, hlr, hrg, hSl]
        refine wp_loopY (Nat × List (List Int × Int)) (fun x => ⟨[(0, RC b one), (2, .mpr l), (4, .ref 5 [.agg (S.map .int)] 0 0), (58, CH b q), (59, .int (chA b q).length), (60, .int x.1)], [], [], some (.mp l 5 x.2)⟩) (fun x => x.1 ≤ (chA b q).length ∧ mInv b one x.2 ∧ (∀ j, j < x.1 → canB b one k' (addv b one a ((chA b q)[j]?.getD default)) = false) ∧ ∀ (p : Nat) (a' : List Int), p < q + 1 → kvget x.2 ((p : Int) :: a') = kvget kv ((p : Int) :: a')) (fun x => (chA b q).length - x.1) (0, kv) ⟨by simp, hI, by simp, fun _ _ _ => rfl⟩ (by simp -failIfUnchanged (disch := first | omega | (simp <;> omega) | fail) only [go_sem, simprocAttr, hSl]; try simp) (fun x => hXx _) ?_
        rintro ⟨i, kv2⟩ ⟨hil, hI2, hpre2, hag⟩
        dsimp only at hil hI2 hpre2 hag ⊢
        simp -failIfUnchanged (disch := first | omega | (simp <;> omega) | fail) only [go_sem, simprocAttr]
        refine wcond_dec (fun hc2 => ?_) (fun hc2 => ?_)
        · have hi : i < (chA b q).length := by omega
          obtain ⟨x, hx⟩ : ∃ x, (chA b q)[i]?.getD default = x := ⟨_, rfl⟩
          have hxm : x ∈ chA b q := by rw [← hx]; exact getD_mem hi
          have hx4 : x.length = 4 := by rw [← hx]; exact chA_l4 hi
          have htx : List.take 4 (List.map AV.int x) = List.map AV.int x := List.take_of_length_le (by simp; omega)
          have hta : List.take 4 (List.drop 1 (List.map AV.int S)) = List.map AV.int a := by rw [← hS]; exact List.take_of_length_le (by simp [ha.1])
          have ha4 := ha.1
          simp -failIfUnchanged (disch := first | omega | (simp <;> omega) | fail) only [go_sem, simprocAttr, hx, htx, hx4, hta, ha4, hS0, hSl]
          have hNl : ∀ j, (((q : Int) + 1) :: nxK one a x j).length = 5 := fun j => by simp [nxK_len]
          have hxb : ∀ d, d < 4 → -51539607552 ≤ x[d]?.getD default ∧ x[d]?.getD default ≤ 51539607552 := fun d hd => chA_bd hv hn hxm hd
          have hab := ha.2
          refine wp_loopY Nat (fun j => ⟨[(0, RC b one), (2, .mpr l), (4, .ref 5 [.agg (S.map .int)] 0 0), (9, .ptr 9 0), (10, .ptr 10 0), (58, CH b q), (59, .int (chA b q).length), (60, .int i), (77, .int dw), (78, .int j)], [(10, ⟨(((q : Int) + 1) :: nxK one a x j).map .int, false⟩), (9, ⟨x.map .int, false⟩)], [], some (.mp l 5 kv2)⟩) (fun j => j ≤ dw) (fun j => dw - j) 0 (by simp) (by simp -failIfUnchanged (disch := first | omega | (simp <;> omega) | fail) only [go_sem, simprocAttr, nxK_0 one a x ha4, scopes_ints, hSl, hdwn]; try simp) (fun x => hXx _) ?_
          intro j hj
          have hj : j ≤ dw := hj
          obtain ⟨N, hN⟩ : ∃ N, ((q : Int) + 1) :: nxK one a x j = N := ⟨_, rfl⟩
          have hNl5 : N.length = 5 := by rw [← hN]; exact hNl j
          rw [hN]
          simp -failIfUnchanged (disch := first | omega | (simp <;> omega) | fail) only [go_sem, simprocAttr]
          refine wcond_dec (fun hc4 => ?_) (fun hc4 => ?_)
          · have hjl : j < dw := by omega
            have hN1 : N[1 + j]?.getD default = a[j]?.getD default := by
              rw [← hN, Nat.add_comm]
              exact nxK_at one a x j (by omega)
            have hNs : N.set (1 + j) (a[j]?.getD default + (x[j]?.getD default - x[one]?.getD default)) = ((q : Int) + 1) :: nxK one a x (j + 1) := by
              rw [← hN, Nat.add_comm 1 j, List.set_cons_succ]
              congr 1
              exact nxK_set one a x j (by omega)
            have e1 := hxb j (by omega)
            have e2 := hxb one (by omega)
            have e3 := hab j (by omega)
            simp -failIfUnchanged (disch := first | omega | (simp <;> omega) | fail) only [go_sem, simprocAttr, hNl5, hx4, hN1, hNs]
            refine lpy_norm (fun x => hXx _) ⟨j + 1, by omega, by omega, ?_⟩
            simp -failIfUnchanged (disch := first | omega | (simp <;> omega) | fail) only [go_sem, simprocAttr, scopes_ints, hSl]
            try simp
          · have e : j = dw := by omega
            subst e
            have htN : List.take 5 (List.map AV.int N) = List.map AV.int N := List.take_of_length_le (by simp; omega)
            simp -failIfUnchanged (disch := first | omega | (simp <;> omega) | fail) only [go_sem, simprocAttr]
            refine wopsW [10] ⟨[(0, RC b one), (2, .mpr l), (4, .ref 5 [.agg (S.map .int)] 0 0), (10, .ref 5 [.agg (N.map .int)] 0 0), (58, CH b q), (59, .int (chA b q).length), (60, .int i)], [], [], some (.mp l 5 kv2)⟩ (by simp -failIfUnchanged (disch := first | omega | (simp <;> omega) | fail) only [go_sem, simprocAttr, hSl, hNl5]; try simp) (hXx _) ?_
            simp -failIfUnchanged (disch := first | omega | (simp <;> omega) | fail) only [go_sem, simprocAttr, hNl5, htN]
            have hNa : N = ((b.found.length - k' : Nat) : Int) :: addv b one a x := by
              rw [← hN, nxK_addv b one a x hdwn, show b.found.length - k' = q + 1 by omega]
              rfl
            have hcall := ih (addv b one a x) kv2
            rw [← hNa] at hcall
            refine wcalli (hcall _ (by rw [show b.found.length - k' = q + 1 by omega]; exact aBd_add hv hn (by omega) hxm ha) hI2 ?_) ?_
            · simp -failIfUnchanged (disch := first | omega | (simp <;> omega) | fail) only [go_sem, simprocAttr]
              try simp
              exact hX
            · rintro r hp' tk' pd' ⟨rfl, kv3, rfl, hI3, hag3⟩
              have hag4 : ∀ (p : Nat) (a' : List Int), p < q + 1 → kvget kv3 ((p : Int) :: a') = kvget kv ((p : Int) :: a') := fun p a' hp => by
                rw [hag3 p a' (by omega), hag p a' hp]
              simp -failIfUnchanged (disch := first | omega | (simp <;> omega) | fail) only [go_sem, simprocAttr]
              refine wcond_bool (fun hr => ?_) (fun hr => ?_)
              · simp -failIfUnchanged (disch := first | omega | (simp <;> omega) | fail) only [go_sem, simprocAttr]
                have hct : canB b one (k' + 1) a = true := by
                  simp only [canB, List.any_eq_true]
                  exact ⟨x, by rw [hA]; exact hxm, hr⟩
                rw [hct]
                exact ⟨rfl, kv3, rfl, hI3, fun p a' hp => hag4 p a' (by omega)⟩
              · simp -failIfUnchanged (disch := first | omega | (simp <;> omega) | fail) only [go_sem, simprocAttr]
                refine lpy_norm (fun x => hXx _) ⟨(i + 1, kv3), ⟨by dsimp only; omega, hI3, fun j' hj' => ?_, hag4⟩, by dsimp only; omega, ?_⟩
                · dsimp only at hj'
                  rcases Nat.lt_or_ge j' i with h8 | h8
                  · exact hpre2 j' h8
                  · obtain rfl : j' = i := by omega
                    rw [hx]; exact hr
                · simp -failIfUnchanged (disch := first | omega | (simp <;> omega) | fail) only [go_sem, simprocAttr]
                  try simp
        · have e : i = (chA b q).length := by omega
          subst e
          have hcf : canB b one (k' + 1) a = false := by
            simp only [canB, hA, List.any_eq_false]
            intro x hx
            obtain ⟨j, hj, rfl⟩ := List.getElem_of_mem hx
            have := hpre2 j hj
            rw [List.getElem?_eq_getElem hj] at this
            simpa using this
          have h20 : kvget kv2 S = 0 := by rw [← hS, hag q a (by omega), hS]; exact h0
          have hw1 : w64 (kvget kv2 S + 1) = 1 := by rw [h20]; rfl
          simp -failIfUnchanged (disch := first | omega | (simp <;> omega) | fail) only [go_sem, simprocAttr]
          refine wbump (xs := S) mk119 rfl ?_ hSl hSr ?_
          · simp -failIfUnchanged (disch := first | omega | (simp <;> omega) | fail) only [go_sem, simprocAttr, hSl, htk5]
            try simp
          · simp -failIfUnchanged (disch := first | omega | (simp <;> omega) | fail) only [go_sem, simprocAttr, hw1]
            rw [hcf]
            refine ⟨rfl, _, rfl, fun xs => ?_, fun p a' hp => ?_⟩
            · rw [kvget_set]
              by_cases e : xs = S
              · rw [if_pos e]
                exact .inr ⟨rfl, k' + 1, a, hk, by rw [e, ← hS, hq], hcf⟩
              · rw [if_neg e]
                exact hI2 xs
            · rw [kvget_set, if_neg ?_]
              · exact hag p a' (by omega)
              · rw [← hS]
                intro e
                injection e with e1 _
                omega
      · simp -failIfUnchanged (disch := first | omega | (simp <;> omega) | fail) only [go_sem, simprocAttr, h1]
        rw [← hS] at hS2
        injection hS2 with e1 e2
        subst e2
        obtain rfl : k2 = k' + 1 := by omega
        rw [hc2]
        exact ⟨rfl, kv, rfl, hI, fun _ _ _ => rfl⟩

theorem c93 (b : Bk) (hv : BV b) (hn : b.say.length < 4294967296) (one : Nat) (ho : (one : Int) < b.dow) (l : Nat) : ∀ (k : Nat), k ≤ b.found.length → ∀ (a : List Int) (kv : List (List Int × Int)) (X : List FrL), aBd a (b.found.length - k) → mInv b one kv → leX ⟨[], [], [], none⟩ X →
    CSem ⟨Try.prog, X, none, false⟩ 93 [RC b one, .agg ((((b.found.length - k : Nat) : Int) :: a).map .int), .mpr l] [] [] (some (.mp l 5 kv)) (mayQ b one l (b.found.length - k) (canB b one k a) kv) := by
  intro k
  induction k with
  | zero => exact fun hk a kv X ha hI hX => c93w b hv hn one ho l 0 hk (fun k' h => by omega) a kv X ha hI hX
  | succ k ih => exact fun hk a kv X ha hI hX => c93w b hv hn one ho l (k + 1) hk (fun k' h a kv X ha hI hX => by obtain rfl : k = k' := by omega
                                                                                                                  exact ih (by omega) a kv X ha hI hX) a kv X ha hI hX

end Go.Proofs.Ytmcfibpeenhcnaa


/- leads, Leads, settled. -/
set_option linter.unusedSimpArgs false
set_option linter.unusedVariables false
set_option linter.unnecessarySimpa false
namespace Go.Proofs.Ytmcfibpeenhcnaa
open Go Go.V

theorem mInv_0 (b : Bk) (one : Nat) : mInv b one [] := fun xs => .inl rfl

theorem c69 (b : Bk) (hv : BV b) (hn : b.say.length < 4294967296) (one : Nat) (ho : (one : Int) < b.dow) : Ctr Try.prog 69 [OB b, .int one] (.int (leadsI b one)) := by
  refine ctr_of_wp hmix Try.func69 m69 rfl ?_
  unfold v69 leadsI
  simp -failIfUnchanged (disch := first | omega | (simp <;> omega) | fail) only [go_sem, simprocAttr]
  refine wcall (c91 b hv hn one ho) ?_
  simp -failIfUnchanged (disch := first | omega | (simp <;> omega) | fail) only [go_sem, simprocAttr]
  refine wcall (c92 b hv hn one ho) ?_
  simp -failIfUnchanged (disch := first | omega | (simp <;> omega) | fail) only [go_sem, simprocAttr]
  refine wcond_bool (fun h => ?_) (fun h => ?_)
  · simp -failIfUnchanged (disch := first | omega | (simp <;> omega) | fail) only [go_sem, simprocAttr, h]
    try simp
  · simp -failIfUnchanged (disch := first | omega | (simp <;> omega) | fail) only [go_sem, simprocAttr]
    refine wmmake mk119 fun l => ?_
    simp -failIfUnchanged (disch := first | omega | (simp <;> omega) | fail) only [go_sem, simprocAttr]
    have hc := c93 b hv hn one ho l b.found.length (Nat.le_refl _) [0, 0, 0, 0] []
    rw [Nat.sub_self] at hc
    refine wcalli (hc _ ⟨rfl, fun o ho => ?_⟩ (mInv_0 b one) ?_) ?_
    · match o with
      | 0 | 1 | 2 | 3 => simp
      | o + 4 => omega
    · simp -failIfUnchanged (disch := first | omega | (simp <;> omega) | fail) only [go_sem, simprocAttr]
      try simp [inScope]
    · rintro r hp' tk' pd' ⟨rfl, kv3, rfl, _, _⟩
      simp -failIfUnchanged (disch := first | omega | (simp <;> omega) | fail) only [go_sem, simprocAttr]
      refine wcond_bool (fun h2 => ?_) (fun h2 => ?_)
      · simp -failIfUnchanged (disch := first | omega | (simp <;> omega) | fail) only [go_sem, simprocAttr, h, h2]
        try simp
      · simp -failIfUnchanged (disch := first | omega | (simp <;> omega) | fail) only [go_sem, simprocAttr, h, h2]
        try simp

def leaR (b : Bk) (d : Int) : AV := let e := askE b (within d 0 (w64 (b.dow - 1))); .tup [.int (if e = 0 then leadsI b d.toNat else 0), .int e]

theorem c19 (b : Bk) (hn : b.say.length < 4294967296) (d : Int) : Ctr Try.prog 19 [DB b, .int d] (leaR b d) := by
  refine ctr_of_wp hmix Try.func19 m19 rfl ?_
  unfold v19 leaR
  simp -failIfUnchanged (disch := first | omega | (simp <;> omega) | fail) only [go_sem, simprocAttr]
  refine wcall (c67 b d) ?_
  simp -failIfUnchanged (disch := first | omega | (simp <;> omega) | fail) only [go_sem, simprocAttr]
  refine wcall (c66 b _ hn) ?_
  unfold opnR
  by_cases he : askE b (within d 0 (w64 (b.dow - 1))) = 0
  · obtain ⟨hv, hi⟩ := ask_0 he
    have hdi := dow_in hv hi
    obtain ⟨n, rfl⟩ : ∃ n : Nat, d = n := ⟨d.toNat, by omega⟩
    rw [he]
    simp -failIfUnchanged (disch := first | omega | (simp <;> omega) | fail) only [go_sem, simprocAttr]
    refine wcall (c69 b hv hn n hdi.2) ?_
    simp -failIfUnchanged (disch := first | omega | (simp <;> omega) | fail) only [go_sem, simprocAttr]
    try simp
  · have hd1 : decide (¬ askE b (within d 0 (w64 (b.dow - 1))) = 0) = true := decide_eq_true he
    simp -failIfUnchanged (disch := first | omega | (simp <;> omega) | fail) only [go_sem, simprocAttr, hd1]
    simp [he]

end Go.Proofs.Ytmcfibpeenhcnaa


/- Hit, Points, Score of both sides. -/
set_option linter.unusedSimpArgs false
set_option linter.unusedVariables false
set_option linter.unnecessarySimpa false
namespace Go.Proofs.Ytmcfibpeenhcnaa
open Go Go.V

theorem say_in {b : Bk} {d : Int} (h : within d 0 ((b.say.length : Int) - 1) = true) : 0 ≤ d ∧ d < b.say.length := by
  rw [within_iff] at h
  omega

abbrev sE (b : Bk) (s : Int) : Int := askE b (within s 0 ((b.say.length : Int) - 1))
abbrev dE (b : Bk) (d : Int) : Int := askE b (within d 0 (w64 (b.dow - 1)))
def hitR (b : Bk) (s : Int) : AV := .tup [.int (if sE b s = 0 then hitI (syt b s.toNat) b.found else 0), .int (sE b s)]
def scoR (b : Bk) (d : Int) : AV := .tup [.int (if dE b d = 0 then sco b d b.found else 0), .int (dE b d)]

theorem say_at {b : Bk} (hv : BV b) {n : Nat} (hl : n < b.say.length) : ∃ (xd : Int) (k : Nat) (xl xh : Int), b.say[n]? = some ⟨xd, k, xl, xh⟩ ∧ syt b n = ⟨xd, k, xl, xh⟩ ∧ k < b.found.length := by
  obtain ⟨⟨xd, xp, xl, xh⟩, hx⟩ : ∃ x, b.say[n]? = some x := ⟨b.say[n], by simp [hl]⟩
  have hsx : syt b n = ⟨xd, xp, xl, xh⟩ := by show b.say[n]?.getD default = _; rw [hx]; rfl
  have hsy := hv.sy n hl
  rw [hsx] at hsy
  dsimp only at hsy
  obtain ⟨k, rfl⟩ : ∃ k : Nat, xp = k := ⟨xp.toNat, by omega⟩
  exact ⟨xd, k, xl, xh, hx, hsx, by omega⟩

theorem c54 (b : Bk) (hn : b.say.length < 4294967296) (s : Int) : Ctr Try.prog 54 [DB b, .int s] (hitR b s) := by
  refine ctr_of_wp hmix Try.func54 m54 rfl ?_
  unfold v54 hitR
  simp -failIfUnchanged (disch := first | omega | (simp <;> omega) | fail) only [go_sem, simprocAttr]
  refine wcall (c47 b s) ?_
  simp -failIfUnchanged (disch := first | omega | (simp <;> omega) | fail) only [go_sem, simprocAttr]
  refine wcall (c78 b _ hn) ?_
  by_cases he : sE b s = 0
  · obtain ⟨hv, hi⟩ := ask_0 he
    have hsi := say_in hi
    obtain ⟨n, rfl⟩ : ∃ n : Nat, s = n := ⟨s.toNat, by omega⟩
    obtain ⟨xd, k, xl, xh, hx, hsx, hkl⟩ := say_at hv (n := n) (by omega)
    have h73 := c73 ⟨xd, k, xl, xh⟩ b.found (by simp) (by simp; omega)
    simp only [he, if_true, Int.toNat_natCast, hsx]
    simp -failIfUnchanged (disch := first | omega | (simp <;> omega) | fail) only [go_sem, simprocAttr, hx]
    refine wcall h73 ?_
    simp -failIfUnchanged (disch := first | omega | (simp <;> omega) | fail) only [go_sem, simprocAttr]
    try simp
  · have hd1 : decide (¬ sE b s = 0) = true := decide_eq_true he
    simp -failIfUnchanged (disch := first | omega | (simp <;> omega) | fail) only [go_sem, simprocAttr, hd1]
    simp [he]

theorem c23 (b : Bk) (hn : b.say.length < 4294967296) (d : Int) : Ctr Try.prog 23 [DB b, .int d] (scoR b d) := by
  refine ctr_of_wp hmix Try.func23 m23 rfl ?_
  unfold v23 scoR
  simp -failIfUnchanged (disch := first | omega | (simp <;> omega) | fail) only [go_sem, simprocAttr]
  refine wcall (c67 b d) ?_
  simp -failIfUnchanged (disch := first | omega | (simp <;> omega) | fail) only [go_sem, simprocAttr]
  refine wcall (c66 b _ hn) ?_
  unfold opnR
  by_cases he : dE b d = 0
  · obtain ⟨hv, hi⟩ := ask_0 he
    have hdi := dow_in hv hi
    have hdw := hv.dw
    obtain ⟨n, rfl⟩ : ∃ n : Nat, d = n := ⟨d.toNat, by omega⟩
    have hnl := nowK_len b b.say.length
    have hna := nowK_at b b.say.length n (by omega)
    simp only [he, if_true]
    simp -failIfUnchanged (disch := first | omega | (simp <;> omega) | fail) only [go_sem, simprocAttr]
    refine wcall (c70 b hv hn) ?_
    simp -failIfUnchanged (disch := first | omega | (simp <;> omega) | fail) only [go_sem, simprocAttr, hnl, hna]
    try simp [hnl, sco]
  · have hd1 : decide (¬ dE b d = 0) = true := decide_eq_true he
    simp -failIfUnchanged (disch := first | omega | (simp <;> omega) | fail) only [go_sem, simprocAttr, hd1]
    simp [he]

theorem c34 (b : Bk) (hn : b.say.length < 4294967296) (d : Int) : Ctr Try.prog 34 [DB b, .int d] (scoR b d) := by
  refine ctr_of_wp hmix Try.func34 m34 rfl ?_
  unfold v34 scoR
  simp -failIfUnchanged (disch := first | omega | (simp <;> omega) | fail) only [go_sem, simprocAttr]
  refine wcall (c16 b d) ?_
  simp -failIfUnchanged (disch := first | omega | (simp <;> omega) | fail) only [go_sem, simprocAttr]
  refine wcall (c78 b _ hn) ?_
  by_cases he : dE b d = 0
  · obtain ⟨hv, hi⟩ := ask_0 he
    simp only [he, if_true]
    simp -failIfUnchanged (disch := first | omega | (simp <;> omega) | fail) only [go_sem, simprocAttr]
    refine wcall (c32 b hv hn d b.found rfl) ?_
    simp -failIfUnchanged (disch := first | omega | (simp <;> omega) | fail) only [go_sem, simprocAttr]
    try simp
  · have hd1 : decide (¬ dE b d = 0) = true := decide_eq_true he
    simp -failIfUnchanged (disch := first | omega | (simp <;> omega) | fail) only [go_sem, simprocAttr, hd1]
    simp [he]

end Go.Proofs.Ytmcfibpeenhcnaa


/- Plain law of sorting numbers by a score, the greatest first. -/
set_option linter.unusedSimpArgs false
set_option linter.unusedVariables false
set_option linter.unnecessarySimpa false
namespace Go.Proofs.Ytmcfibpeenhcnaa

/-- i comes before j by what is left; the first one where it is the same. -/
def bfr (r : Nat → Int) (i j : Nat) : Prop := r j < r i ∨ (r j = r i ∧ i < j)
instance (r : Nat → Int) (i j : Nat) : Decidable (bfr r i j) := by unfold bfr; exact inferInstance

theorem bfr_trans {r : Nat → Int} {i j k : Nat} (h1 : bfr r i j) (h2 : bfr r j k) : bfr r i k := by unfold bfr at *; omega
theorem bfr_irrefl {r : Nat → Int} {i : Nat} : ¬ bfr r i i := by unfold bfr; omega
def swp (d : List Nat) (j : Nat) : List Nat := (d.set j (d[j - 1]?.getD 0)).set (j - 1) (d[j]?.getD 0)

/-- An element goes down to its place. -/
def bub (r : Nat → Int) : Nat → List Nat → List Nat
  | 0, d => d
  | j + 1, d => if r (d[j]?.getD 0) < r (d[j + 1]?.getD 0) then bub r j (swp d (j + 1)) else d

def srt (r : Nat → Int) (d : List Nat) (k : Nat) : List Nat := (List.range k).foldl (fun d i => bub r (i + 1) d) d

theorem swp_len (d : List Nat) (j : Nat) : (swp d j).length = d.length := by simp [swp]
theorem bub_len (r : Nat → Int) : ∀ j d, (bub r j d).length = d.length
  | 0, d => rfl
  | j + 1, d => by
    unfold bub
    split
    · rw [bub_len r j, swp_len]
    · rfl
theorem srt_succ (r : Nat → Int) (d : List Nat) (k : Nat) : srt r d (k + 1) = bub r (k + 1) (srt r d k) := by
  unfold srt
  rw [List.range_succ, List.foldl_append]
  rfl
theorem srt_len (r : Nat → Int) (d : List Nat) : ∀ k, (srt r d k).length = d.length
  | 0 => rfl
  | k + 1 => by rw [srt_succ, bub_len, srt_len r d k]

theorem swp_perm (d : List Nat) (j : Nat) (hj : j + 1 < d.length) : (swp d (j + 1)).Perm d := by
  unfold swp
  simp only [Nat.add_sub_cancel]
  induction j generalizing d with
  | zero =>
    match d, hj with
    | a :: b :: l, _ => exact List.Perm.swap a b l
  | succ j ih =>
    match d, hj with
    | a :: l, hj =>
      have := ih l (by simpa using hj)
      simp only [List.getElem?_cons_succ, List.set_cons_succ]
      exact this.cons a

theorem bub_perm (r : Nat → Int) : ∀ j d, j < d.length → (bub r j d).Perm d
  | 0, d, _ => List.Perm.refl _
  | j + 1, d, hj => by
    unfold bub
    split
    · exact (bub_perm r j _ (by rw [swp_len]; omega)).trans (swp_perm d j hj)
    · exact List.Perm.refl _

theorem srt_perm (r : Nat → Int) (d : List Nat) : ∀ k, k < d.length ∨ k = 0 → (srt r d k).Perm d
  | 0, _ => List.Perm.refl _
  | k + 1, hk => by
    rw [srt_succ]
    exact (bub_perm r (k + 1) _ (by rw [srt_len]; omega)).trans (srt_perm r d k (by omega))

abbrev nth (d : List Nat) (i : Nat) : Nat := d[i]?.getD 0

theorem swp_nth (d : List Nat) (j i : Nat) (hj : j + 1 < d.length) : nth (swp d (j + 1)) i = if i = j then nth d (j + 1) else if i = j + 1 then nth d j else nth d i := by
  unfold swp nth
  simp only [Nat.add_sub_cancel]
  rw [List.getElem?_set, List.getElem?_set]
  by_cases h1 : i = j
  · subst h1
    rw [if_pos rfl, if_pos rfl, if_pos (by simp; omega)]
    rfl
  · rw [if_neg h1, if_neg (by omega)]
    by_cases h2 : i = j + 1
    · subst h2
      rw [if_pos rfl, if_pos rfl, if_pos hj]
      rfl
    · rw [if_neg h2, if_neg (by omega)]

/-- Down it goes: the first ones are in order, and behind it too. -/
theorem bub_sorted (r : Nat → Int) : ∀ (j m : Nat) (d : List Nat), j ≤ m → m < d.length →
    (∀ a b, a < b → b ≤ m → a ≠ j → b ≠ j → bfr r (nth d a) (nth d b)) → (∀ b, j < b → b ≤ m → bfr r (nth d j) (nth d b)) →
    (∀ a, a < j → nth d a < nth d j) → ∀ a b, a < b → b ≤ m → bfr r (nth (bub r j d) a) (nth (bub r j d) b)
  | 0, m, d, hjm, hm, h1, h2, h3 => by
    intro a b hab hb
    unfold bub
    by_cases ha : a = 0
    · subst ha; exact h2 b hab hb
    · exact h1 a b hab hb ha (by omega)
  | j + 1, m, d, hjm, hm, h1, h2, h3 => by
    unfold bub
    have hs := fun i => swp_nth d j i (by omega)
    split
    · rename_i hlt
      have hlt' : r (nth d j) < r (nth d (j + 1)) := hlt
      refine bub_sorted r j m (swp d (j + 1)) (by omega) (by rw [swp_len]; exact hm) ?_ ?_ ?_
      · intro a b hab hb ha hbj
        rw [hs a, hs b, if_neg ha, if_neg hbj]
        by_cases e1 : a = j + 1
        · rw [if_pos e1, if_neg (by omega)]
          exact h1 j b (by omega) hb (by omega) (by omega)
        · rw [if_neg e1]
          by_cases e2 : b = j + 1
          · rw [if_pos e2]
            exact h1 a j (by omega) (by omega) (by omega) (by omega)
          · rw [if_neg e2]
            exact h1 a b hab hb (by omega) (by omega)
      · intro b hjb hb
        rw [hs j, hs b, if_pos rfl, if_neg (by omega)]
        by_cases e2 : b = j + 1
        · rw [if_pos e2]
          exact .inl hlt'
        · rw [if_neg e2]
          exact h2 b (by omega) hb
      · intro a ha
        rw [hs a, hs j, if_pos rfl, if_neg (by omega), if_neg (by omega)]
        exact h3 a (by omega)
    · rename_i hge
      have hge' : ¬ r (nth d j) < r (nth d (j + 1)) := hge
      intro a b hab hb
      by_cases e1 : a = j + 1
      · subst e1; exact h2 b hab hb
      · by_cases e2 : b = j + 1
        · subst e2
          have hj0 : bfr r (nth d j) (nth d (j + 1)) := by
            have := h3 j (by omega)
            unfold bfr; omega
          by_cases e3 : a = j
          · subst e3; exact hj0
          · exact bfr_trans (h1 a j (by omega) (by omega) (by omega) (by omega)) hj0
        · exact h1 a b hab hb e1 e2

/-- What lies behind the place is not touched. -/
theorem bub_after (r : Nat → Int) : ∀ (j : Nat) (d : List Nat), j < d.length → ∀ i, j < i → nth (bub r j d) i = nth d i
  | 0, d, _, i, _ => rfl
  | j + 1, d, hj, i, hi => by
    unfold bub
    split
    · rw [bub_after r j _ (by rw [swp_len]; omega) i (by omega), swp_nth d j i hj, if_neg (by omega), if_neg (by omega)]
    · rfl

theorem bub_le (r : Nat → Int) : ∀ (j m M : Nat) (d : List Nat), j ≤ m → m < d.length → (∀ a, a ≤ m → nth d a ≤ M) → ∀ a, a ≤ m → nth (bub r j d) a ≤ M
  | 0, m, M, d, _, _, h, a, ha => h a ha
  | j + 1, m, M, d, hj, hm, h, a, ha => by
    unfold bub
    split
    · refine bub_le r j m M _ (by omega) (by rw [swp_len]; exact hm) (fun c hc => ?_) a ha
      rw [swp_nth d j c (by omega)]
      split
      · exact h _ (by omega)
      · split
        · exact h _ (by omega)
        · exact h c hc
    · exact h a ha

/-- The sorted list: all of 0 .. n - 1. -/
def srtN (r : Nat → Int) (n : Nat) : List Nat := srt r (List.range n) (n - 1)

theorem nth_range {n i : Nat} (h : i < n) : nth (List.range n) i = i := by simp [nth, h]

theorem srt_inv (r : Nat → Int) (n : Nat) : ∀ k, k < n → (∀ i, k < i → i < n → nth (srt r (List.range n) k) i = i) ∧ (∀ i, i ≤ k → nth (srt r (List.range n) k) i ≤ k) ∧ ∀ a b, a < b → b ≤ k → bfr r (nth (srt r (List.range n) k) a) (nth (srt r (List.range n) k) b)
  | 0, hk => by
    refine ⟨fun i _ hi => nth_range hi, fun i hi => ?_, fun a b h1 h2 => by omega⟩
    obtain rfl : i = 0 := by omega
    show nth (List.range n) 0 ≤ 0
    rw [nth_range hk]
    exact Nat.le_refl _
  | k + 1, hk => by
    obtain ⟨h1, h2, h3⟩ := srt_inv r n k (by omega)
    rw [srt_succ]
    have hl : (srt r (List.range n) k).length = n := by rw [srt_len, List.length_range]
    generalize srt r (List.range n) k = d at *
    have hk1 := h1 (k + 1) (by omega) hk
    have hso := bub_sorted r (k + 1) (k + 1) d (Nat.le_refl _) (by omega) (fun a b hab hb ha hbj => h3 a b hab (by omega)) (fun b _ _ => by omega) (fun a ha => by
      rw [hk1]
      have := h2 a (by omega)
      omega)
    have haf := bub_after r (k + 1) d (by omega)
    refine ⟨fun i hi hin => by rw [haf i hi]; exact h1 i (by omega) hin, fun i hi => ?_, hso⟩
    refine bub_le r (k + 1) (k + 1) (k + 1) d (Nat.le_refl _) (by omega) (fun a ha => ?_) i hi
    rcases Nat.lt_or_ge k a with h | h
    · obtain rfl : a = k + 1 := by omega
      omega
    · have := h2 a h
      omega

/-- All of them, each once, each before those behind it. -/
theorem srtN_perm (r : Nat → Int) (n : Nat) : (srtN r n).Perm (List.range n) := srt_perm r _ _ (by simp; omega)
theorem srtN_len (r : Nat → Int) (n : Nat) : (srtN r n).length = n := by unfold srtN; rw [srt_len, List.length_range]
theorem srtN_ord (r : Nat → Int) (n : Nat) : ∀ a b, a < b → b < n → bfr r (nth (srtN r n) a) (nth (srtN r n) b) := by
  intro a b hab hb
  exact (srt_inv r n (n - 1) (by omega)).2.2 a b hab (by omega)
theorem srtN_mem (r : Nat → Int) (n i : Nat) : i ∈ srtN r n ↔ i < n := by rw [(srtN_perm r n).mem_iff, List.mem_range]
theorem srtN_nth (r : Nat → Int) (n : Nat) {a : Nat} (h : a < n) : nth (srtN r n) a < n := by
  rw [← srtN_mem r]
  unfold nth
  rw [List.getElem?_eq_getElem (by rw [srtN_len]; exact h)]
  exact List.getElem_mem _
theorem srtN_inj (r : Nat → Int) (n : Nat) {a b : Nat} (ha : a < n) (hb : b < n) (h : nth (srtN r n) a = nth (srtN r n) b) : a = b := by
  rcases Nat.lt_trichotomy a b with h1 | h1 | h1
  · have := srtN_ord r n a b h1 hb
    rw [h] at this
    exact absurd this bfr_irrefl
  · exact h1
  · have := srtN_ord r n b a h1 ha
    rw [h] at this
    exact absurd this bfr_irrefl
theorem srtN_ex (r : Nat → Int) (n : Nat) {i : Nat} (h : i < n) : ∃ a, a < n ∧ nth (srtN r n) a = i := by
  obtain ⟨a, ha, e⟩ := List.getElem_of_mem ((srtN_mem r n i).2 h)
  rw [srtN_len] at ha
  refine ⟨a, ha, ?_⟩
  unfold nth
  rw [List.getElem?_eq_getElem (by rw [srtN_len]; exact ha), e]
  rfl

/-- The first ones. -/
theorem take_mem (r : Nat → Int) (n k : Nat) (hk : k ≤ n) {a : Nat} (ha : a < n) : nth (srtN r n) a ∈ (srtN r n).take k ↔ a < k := by
  constructor
  · intro h
    obtain ⟨c, hc, e⟩ := List.getElem_of_mem h
    simp only [List.length_take, srtN_len] at hc
    rw [List.getElem_take] at e
    have : nth (srtN r n) c = nth (srtN r n) a := by
      rw [← e]
      unfold nth
      rw [List.getElem?_eq_getElem (by rw [srtN_len]; omega)]
      rfl
    have := srtN_inj r n (by omega) ha this
    omega
  · intro h
    unfold nth
    rw [List.getElem?_eq_getElem (by rw [srtN_len]; exact ha)]
    simp only [Option.getD_some]
    have : (srtN r n)[a]'(by rw [srtN_len]; exact ha) = ((srtN r n).take k)[a]'(by simp [srtN_len]; omega) := by rw [List.getElem_take]
    rw [this]
    exact List.getElem_mem _

/-- What comes before one of the first ones is one of them. -/
theorem take_bfr (r : Nat → Int) (n k : Nat) (hk : k ≤ n) {i j : Nat} (hi : i < n) (hj : j < n) (h : bfr r i j) (hm : j ∈ (srtN r n).take k) : i ∈ (srtN r n).take k := by
  obtain ⟨a, ha, rfl⟩ := srtN_ex r n hi
  obtain ⟨c, hc, rfl⟩ := srtN_ex r n hj
  rw [take_mem r n k hk hc] at hm
  rw [take_mem r n k hk ha]
  apply Classical.byContradiction
  intro hno
  have := srtN_ord r n c a (by omega) ha
  exact bfr_irrefl (bfr_trans h this)

theorem take_succ_srt (r : Nat → Int) (n k : Nat) (hk : k < n) : (srtN r n).take (k + 1) = (srtN r n).take k ++ [nth (srtN r n) k] := by
  rw [List.take_add_one]
  congr 1
  unfold nth
  rw [List.getElem?_eq_getElem (by rw [srtN_len]; exact hk)]
  rfl

end Go.Proofs.Ytmcfibpeenhcnaa


/- SortStableFunc, gone through in its caller's place. -/
set_option linter.unusedSimpArgs false
set_option linter.unusedVariables false
set_option linter.unnecessarySimpa false
namespace Go.Proofs.Ytmcfibpeenhcnaa
open Go Go.V

/-- Numbers as the machine has them. -/
abbrev nI (d : List Nat) : List Int := d.map fun k => ((k : Nat) : Int)

theorem nI_get (d : List Nat) (i : Nat) : (nI d)[i]?.getD default = ((nth d i : Nat) : Int) := by
  simp only [nth, List.getElem?_map]
  cases d[i]? <;> rfl
theorem nI_len (d : List Nat) : (nI d).length = d.length := by simp
theorem nI_set (d : List Nat) (i x : Nat) : (nI d).set i ((x : Nat) : Int) = nI (d.set i x) := by simp only [nI, List.map_set]
theorem nI_range_succ (i : Nat) : nI (List.range i) ++ [(i : Int)] = nI (List.range (i + 1)) := by
  simp only [nI, List.range_succ, List.map_append, List.map_cons, List.map_nil]

theorem tidy_ints {xs : List Int} {hp : List (Nat × BX)} : (xs.map AV.int).map (tidy hp) = xs.map .int := by
  rw [List.map_map]
  rfl
attribute [go_sem] tidy_ints

/-- What is sorted: the numbers below n, in a growing box; R is the rest of the memory. -/
def srtQ (b n : Nat) (R : HpL) (r : Nat → Int) : AV → HpL → TkL → Option Ex → Prop := fun _ hp' tk' pd' => hp' = (b, ⟨(nI (srtN r n)).map .int, false⟩) :: R ∧ tk' = [] ∧ pd' = none

theorem c100 (X : List FrL) (fm v n : Nat) (hn : n ≤ 19) (R : HpL) (f : FuncId) (caps : List AV) (r : Nat → Int)
    (hc : ∀ i k, i < n → k < n → Ctr Try.prog f ([.int i, .int k] ++ caps) (.int (r k - r i))) (hr : ∀ i, i < n → -1000000000000000 ≤ r i ∧ r i ≤ 1000000000000000)
    (hR : ∀ {fr : FrL} {tk : TkL} {pd : Option Ex} {c c' : BX}, leHp ⟨fr, (K fm 0 v, c) :: R, tk, pd⟩ ((K fm 0 v, c') :: R) R = True) (hX : ∀ fr c, leX ⟨fr, (K fm 0 v, c) :: R, [], none⟩ X) :
    CSem ⟨Try.prog, X, none, false⟩ 100 [.gsl fm 0 v 1 n false, .int 0, .int n, .clo f [] caps] ((K fm 0 v, ⟨(nI (List.range n)).map .int, false⟩) :: R) [] none (srtQ (K fm 0 v) n R r) := by
  refine csem_of_wp hmix Try.func100 m100 rfl rfl ?_
  unfold v100
  obtain ⟨D0, hD0⟩ : ∃ D0, List.range n = D0 := ⟨_, rfl⟩
  have hD0l : D0.length = n := by rw [← hD0, List.length_range]
  have hsrt0 : srt r D0 0 = D0 := rfl
  rw [hD0]
  simp -failIfUnchanged (disch := first | omega | (simp <;> omega) | fail) only [go_sem, simprocAttr]
  refine wp_loopY Nat (fun k => ⟨[(0, .gsl fm 0 v 1 n false), (1, .int 0), (2, .int n), (3, .clo f [] caps), (8, .int (k + 1 : Nat))], (K fm 0 v, ⟨(nI (srt r D0 k)).map .int, false⟩) :: R, [], none⟩) (fun k => k < n ∨ k = 0) (fun k => n - k) 0 (.inr rfl) (by simp -failIfUnchanged (disch := first | omega | (simp <;> omega) | fail) only [go_sem, simprocAttr, hR, hsrt0]; try simp) (fun x => hX _ _) ?_
  intro k hk
  have hk : k < n ∨ k = 0 := hk
  have hdl : (nI (srt r D0 k)).length = n := by rw [nI_len, srt_len, hD0l]
  simp -failIfUnchanged (disch := first | omega | (simp <;> omega) | fail) only [go_sem, simprocAttr]
  refine wcond_dec (fun hx => ?_) (fun hx => ?_)
  · have hk1 : k + 1 < n := by omega
    simp -failIfUnchanged (disch := first | omega | (simp <;> omega) | fail) only [go_sem, simprocAttr]
    refine wp_loopY (Nat × List Nat) (fun x => ⟨[(0, .gsl fm 0 v 1 n false), (1, .int 0), (2, .int n), (3, .clo f [] caps), (8, .int (k + 1 : Nat)), (9, .int (x.1 : Nat))], (K fm 0 v, ⟨(nI x.2).map .int, false⟩) :: R, [], none⟩)
      (fun x => x.1 ≤ k + 1 ∧ x.2.Perm D0 ∧ bub r x.1 x.2 = srt r D0 (k + 1)) (fun x => x.1) (k + 1, srt r D0 k) ⟨by simp, srt_perm r _ _ (by omega), by rw [srt_succ]⟩ (by simp -failIfUnchanged (disch := first | omega | (simp <;> omega) | fail) only [go_sem, simprocAttr, hR]; try simp) (fun _ => hX _ _) ?_
    rintro ⟨j, d⟩ ⟨hj, hp, hb⟩
    dsimp only at hj hp hb ⊢
    have hdn : (nI d).length = n := by rw [nI_len, hp.length_eq, hD0l]
    have hdl2 : d.length = n := by rw [← nI_len]; exact hdn
    have hnt : ∀ i, i < n → nth d i < n := fun i hi => by
      have hm : nth d i ∈ d := by
        unfold nth
        rw [List.getElem?_eq_getElem (by omega)]
        exact List.getElem_mem _
      have := hp.mem_iff.1 hm
      rw [← hD0] at this
      exact List.mem_range.1 this
    simp -failIfUnchanged (disch := first | omega | (simp <;> omega) | fail) only [go_sem, simprocAttr]
    refine WGd_bool (fun h1 => ?_) (fun h1 => ?_)
    · have h1' : (0 : Int) < j := of_decide_eq_true h1
      obtain ⟨m, rfl⟩ : ∃ m, j = m + 1 := ⟨j - 1, by omega⟩
      have hcc := hc (nth d (m + 1)) (nth d m) (hnt _ (by omega)) (hnt _ (by omega))
      have r1 := hr (nth d m) (hnt _ (by omega))
      have r2 := hr (nth d (m + 1)) (hnt _ (by omega))
      have e1 : (((m + 1 : Nat) : Int) - 1) = (m : Int) := by omega
      simp -failIfUnchanged (disch := first | omega | (simp <;> omega) | fail) only [go_sem, simprocAttr, h1, e1, nI_get]
      refine wcall hcc ?_
      simp -failIfUnchanged (disch := first | omega | (simp <;> omega) | fail) only [go_sem, simprocAttr]
      refine wcond_dec (fun h2 => ?_) (fun h2 => ?_)
      · have hb' : bub r m (swp d (m + 1)) = srt r D0 (k + 1) := by
          rw [← hb]
          show _ = bub r (m + 1) d
          rw [bub, if_pos (by show r (nth d m) < r (nth d (m + 1)); omega)]
        have hsw : ((nI d).set (m + 1) ((nth d m : Nat) : Int)).set m ((nth d (m + 1) : Nat) : Int) = nI (swp d (m + 1)) := by
          rw [nI_set, nI_set]
          rfl
        simp -failIfUnchanged (disch := first | omega | (simp <;> omega) | fail) only [go_sem, simprocAttr, h1, e1, nI_get]
        refine lpy_norm (fun _ => hX _ _) ⟨(m, swp d (m + 1)), ⟨by omega, (swp_perm d m (by omega)).trans hp, hb'⟩, by dsimp only; omega, ?_⟩
        dsimp only
        rw [← hsw]
        simp -failIfUnchanged (disch := first | omega | (simp <;> omega) | fail) only [go_sem, simprocAttr, hR]
        try simp
      · have hb' : d = srt r D0 (k + 1) := by
          rw [← hb]
          show _ = bub r (m + 1) d
          rw [bub, if_neg (by show ¬ r (nth d m) < r (nth d (m + 1)); omega)]
        simp -failIfUnchanged (disch := first | omega | (simp <;> omega) | fail) only [go_sem, simprocAttr]
        refine lpy_norm (fun _ => hX _ _) ⟨k + 1, .inl hk1, by omega, ?_⟩
        rw [← hb']
        simp -failIfUnchanged (disch := first | omega | (simp <;> omega) | fail) only [go_sem, simprocAttr, hR]
        try simp
    · have h1' : ¬ (0 : Int) < j := of_decide_eq_false h1
      obtain rfl : j = 0 := by omega
      have hb' : d = srt r D0 (k + 1) := hb
      simp -failIfUnchanged (disch := first | omega | (simp <;> omega) | fail) only [go_sem, simprocAttr, h1]
      refine lpy_norm (fun _ => hX _ _) ⟨k + 1, .inl hk1, by omega, ?_⟩
      rw [← hb']
      simp -failIfUnchanged (disch := first | omega | (simp <;> omega) | fail) only [go_sem, simprocAttr, hR]
      try simp
  · have hkn : k = n - 1 := by omega
    have hcut : srt r D0 k = srtN r n := by
      unfold srtN
      rw [hD0, hkn]
    rw [hcut]
    simp -failIfUnchanged (disch := first | omega | (simp <;> omega) | fail) only [go_sem, simprocAttr]
    exact ⟨rfl, rfl, rfl⟩

theorem c75 (X : List FrL) (fm v n : Nat) (hn : n ≤ 19) (R : HpL) (f : FuncId) (caps : List AV) (r : Nat → Int)
    (hc : ∀ i k, i < n → k < n → Ctr Try.prog f ([.int i, .int k] ++ caps) (.int (r k - r i))) (hr : ∀ i, i < n → -1000000000000000 ≤ r i ∧ r i ≤ 1000000000000000)
    (hR : ∀ {fr : FrL} {tk : TkL} {pd : Option Ex} {c c' : BX}, leHp ⟨fr, (K fm 0 v, c) :: R, tk, pd⟩ ((K fm 0 v, c') :: R) R = True) (hX : ∀ fr c, leX ⟨fr, (K fm 0 v, c) :: R, [], none⟩ X) :
    CSem ⟨Try.prog, X, none, false⟩ 75 [.gsl fm 0 v 1 n false, .clo f [] caps] ((K fm 0 v, ⟨(nI (List.range n)).map .int, false⟩) :: R) [] none (srtQ (K fm 0 v) n R r) := by
  refine csem_of_wp hmix Try.func75 m75 rfl rfl ?_
  unfold v75
  obtain ⟨D0, hD0⟩ : ∃ D0, List.range n = D0 := ⟨_, rfl⟩
  rw [hD0]
  simp -failIfUnchanged (disch := first | omega | (simp <;> omega) | fail) only [go_sem, simprocAttr]
  refine wcall_in hmix Try.func95 m95 rfl ?_
  unfold v95
  simp -failIfUnchanged (disch := first | omega | (simp <;> omega) | fail) only [go_sem, simprocAttr]
  refine wp_loopY Unit (fun _ => ⟨[(0, .gsl fm 0 v 1 n false), (1, .int n), (2, .clo f [] caps), (6, .int 20), (7, .int 0), (8, .int 20)], (K fm 0 v, ⟨(nI D0).map .int, false⟩) :: R, [], none⟩) (fun _ => True) (fun _ => 0) () trivial (by simp -failIfUnchanged (disch := first | omega | (simp <;> omega) | fail) only [go_sem, simprocAttr, hR]; try simp) (fun _ => by simp -failIfUnchanged (disch := first | omega | (simp <;> omega) | fail) only [go_sem, simprocAttr]; simp [hX]) ?_
  intro _ _
  simp -failIfUnchanged (disch := first | omega | (simp <;> omega) | fail) only [go_sem, simprocAttr]
  refine wcond_dec (fun hx => ?_) (fun hx => ?_)
  · omega
  simp -failIfUnchanged (disch := first | omega | (simp <;> omega) | fail) only [go_sem, simprocAttr]
  rw [← hD0]
  refine wcalli (c100 _ fm v n hn R f caps r hc hr hR (fun fr c => ?_)) ?_
  · simp -failIfUnchanged (disch := first | omega | (simp <;> omega) | fail) only [go_sem, simprocAttr]
    simp [hX]
  rintro _ hp' tk' pd' ⟨rfl, rfl, rfl⟩
  simp -failIfUnchanged (disch := first | omega | (simp <;> omega) | fail) only [go_sem, simprocAttr]
  refine wp_loopY Unit (fun _ => ⟨[(0, .gsl fm 0 v 1 n false), (1, .int n), (2, .clo f [] caps), (6, .int 20)], (K fm 0 v, ⟨(nI (srtN r n)).map .int, false⟩) :: R, [], none⟩) (fun _ => True) (fun _ => 0) () trivial (by simp -failIfUnchanged (disch := first | omega | (simp <;> omega) | fail) only [go_sem, simprocAttr, hR]; try simp) (fun _ => by simp -failIfUnchanged (disch := first | omega | (simp <;> omega) | fail) only [go_sem, simprocAttr]; simp [hX]) ?_
  intro _ _
  simp -failIfUnchanged (disch := first | omega | (simp <;> omega) | fail) only [go_sem, simprocAttr]
  refine wcond_dec (fun hx2 => ?_) (fun hx2 => ?_)
  · omega
  simp -failIfUnchanged (disch := first | omega | (simp <;> omega) | fail) only [go_sem, simprocAttr]
  exact ⟨rfl, rfl, rfl⟩

end Go.Proofs.Ytmcfibpeenhcnaa


/- Plain law of dividing by parts, and of who gets one more. -/
set_option linter.unusedSimpArgs false
set_option linter.unusedVariables false
set_option linter.unnecessarySimpa false
namespace Go.Proofs.Ytmcfibpeenhcnaa

abbrev at0 (l : List Int) (i : Nat) : Int := l[i]?.getD default
theorem at0_lt {l : List Int} {i : Nat} (h : i < l.length) : at0 l i = l[i] := by simp [at0, h]
theorem at0_set {l : List Int} {i j : Nat} {x : Int} (h : i < l.length) : at0 (l.set i x) j = if i = j then x else at0 l j := by
  unfold at0
  rw [List.getElem?_set]
  by_cases e : i = j
  · rw [if_pos e, if_pos e, if_pos (e ▸ h)]; rfl
  · rw [if_neg e, if_neg e]

theorem at0_rep (n i : Nat) : at0 (List.replicate n (0 : Int)) i = 0 := by
  unfold at0
  rw [List.getElem?_replicate]
  split <;> rfl

def sumI (l : List Int) : Int := l.foldl (· + ·) 0

theorem foldl_add (l : List Int) (a : Int) : l.foldl (· + ·) a = a + sumI l := by
  unfold sumI
  induction l generalizing a with
  | nil => simp
  | cons x r ih =>
    simp only [List.foldl_cons]
    rw [ih (a + x), ih (0 + x)]
    omega

theorem sumI_nil : sumI [] = 0 := rfl
theorem sumI_cons (x : Int) (l : List Int) : sumI (x :: l) = x + sumI l := by
  show (x :: l).foldl (· + ·) 0 = _
  rw [List.foldl_cons, foldl_add]
  omega
theorem sumI_app (l k : List Int) : sumI (l ++ k) = sumI l + sumI k := by
  induction l with
  | nil => simp [sumI_nil]
  | cons x r ih => rw [List.cons_append, sumI_cons, sumI_cons, ih]; omega

theorem sumI_set (l : List Int) (i : Nat) (x : Int) (h : i < l.length) : sumI (l.set i x) = sumI l - at0 l i + x := by
  induction l generalizing i with
  | nil => simp at h
  | cons y r ih =>
    cases i with
    | zero => simp only [List.set_cons_zero, sumI_cons]; simp [at0]; omega
    | succ i =>
      simp only [List.set_cons_succ, sumI_cons]
      rw [ih i (by simpa using h)]
      have : at0 (y :: r) (i + 1) = at0 r i := by simp [at0]
      rw [this]
      omega

theorem sumI_rep (n : Nat) : sumI (List.replicate n (0 : Int)) = 0 := by
  induction n with
  | zero => rfl
  | succ n ih => rw [List.replicate_succ, sumI_cons, ih]; rfl

theorem sumI_le {l k : List Int} (hl : l.length = k.length) (h : ∀ i, i < l.length → at0 l i ≤ at0 k i) : sumI l ≤ sumI k := by
  induction l generalizing k with
  | nil =>
    have : k = [] := List.eq_nil_of_length_eq_zero (by simpa using hl.symm)
    subst this
    exact Int.le_refl _
  | cons x r ih =>
    match k, hl with
    | y :: k, hl =>
      rw [sumI_cons, sumI_cons]
      have h0 := h 0 (by simp)
      have := ih (k := k) (by simpa using hl) fun i hi => by
        have := h (i + 1) (by simpa using hi)
        simpa [at0] using this
      have : x ≤ y := by simpa [at0] using h0
      omega

def allS (s : List Int) : Int := sumI s
def restI (s : List Int) (f : Int) (i : Nat) : Int := f * at0 s i % allS s
def flrI (s : List Int) (f : Int) (i : Nat) : Int := f * at0 s i / allS s
def flrL (s : List Int) (f : Int) : List Int := (List.range s.length).map (flrI s f)
def leftI (s : List Int) (f : Int) : Int := f - sumI (flrL s f)
def cutL (s : List Int) (f : Int) : List Nat := srtN (restI s f) s.length

/-- k of them have one more. -/
def remK (s : List Int) (f : Int) (k : Nat) : List Int := (List.range s.length).map fun i => flrI s f i + if i ∈ (cutL s f).take k then 1 else 0
def remL (s : List Int) (f : Int) : List Int := if allS s = 0 then List.replicate s.length 0 else remK s f (leftI s f).toNat

theorem at0_rmap (g : Nat → Int) {n i : Nat} (h : i < n) : at0 ((List.range n).map g) i = g i := by simp [at0, h]

theorem sumI_rmap_succ (g : Nat → Int) (n : Nat) : sumI ((List.range (n + 1)).map g) = sumI ((List.range n).map g) + g n := by
  rw [List.range_succ, List.map_append, sumI_app]
  show _ + sumI [g n] = _
  rw [sumI_cons, sumI_nil]
  omega

theorem sumI_rmap_add (g h : Nat → Int) (n : Nat) : sumI ((List.range n).map fun i => g i + h i) = sumI ((List.range n).map g) + sumI ((List.range n).map h) := by
  induction n with
  | zero => rfl
  | succ n ih => rw [sumI_rmap_succ, sumI_rmap_succ, sumI_rmap_succ, ih]; omega

theorem sumI_rmap_mul (g : Nat → Int) (a : Int) (n : Nat) : sumI ((List.range n).map fun i => a * g i) = a * sumI ((List.range n).map g) := by
  induction n with
  | zero => simp [sumI_nil]
  | succ n ih => rw [sumI_rmap_succ, sumI_rmap_succ, ih, Int.mul_add]

theorem sumI_rmap_congr {g h : Nat → Int} {n : Nat} (e : ∀ i, i < n → g i = h i) : sumI ((List.range n).map g) = sumI ((List.range n).map h) := by
  congr 1
  exact List.map_congr_left fun i hi => e i (List.mem_range.1 hi)

theorem list_rmap (l : List Int) : (List.range l.length).map (at0 l) = l := by
  apply List.ext_getElem (by simp)
  intro i h1 h2
  simp [at0, h2]

theorem sumI_rmap_at (l : List Int) : sumI ((List.range l.length).map (at0 l)) = sumI l := by rw [list_rmap]

theorem sumI_rmap_le {g h : Nat → Int} {n : Nat} (e : ∀ i, i < n → g i ≤ h i) : sumI ((List.range n).map g) ≤ sumI ((List.range n).map h) := by
  induction n with
  | zero => exact Int.le_refl _
  | succ n ih =>
    rw [sumI_rmap_succ, sumI_rmap_succ]
    have := ih fun i hi => e i (by omega)
    have := e n (by omega)
    omega

theorem sumI_rmap_const (a : Int) (n : Nat) : sumI ((List.range n).map fun _ => a) = n * a := by
  induction n with
  | zero => simp [sumI_nil]
  | succ n ih =>
    rw [sumI_rmap_succ, ih, Int.natCast_succ, Int.add_mul]
    omega

/-- The parts and what is left of them. -/
theorem parts (s : List Int) (f : Int) (h0 : 0 < allS s) : allS s * leftI s f = sumI ((List.range s.length).map (restI s f)) := by
  have h1 : sumI ((List.range s.length).map fun i => allS s * flrI s f i + restI s f i) = f * allS s := by
    have e : sumI ((List.range s.length).map fun i => allS s * flrI s f i + restI s f i) = sumI ((List.range s.length).map fun i => f * at0 s i) :=
      sumI_rmap_congr fun i _ => Int.mul_ediv_add_emod _ _
    rw [e, sumI_rmap_mul, sumI_rmap_at]
    rfl
  rw [sumI_rmap_add, sumI_rmap_mul] at h1
  unfold leftI flrL
  rw [Int.mul_sub, Int.mul_comm (allS s) f]
  omega

theorem rest_bd (s : List Int) (f : Int) (h0 : 0 < allS s) (i : Nat) : 0 ≤ restI s f i ∧ restI s f i < allS s := ⟨Int.emod_nonneg _ (by omega), Int.emod_lt_of_pos _ h0⟩

theorem left_bd (s : List Int) (f : Int) (h0 : 0 < allS s) : 0 ≤ leftI s f ∧ leftI s f < s.length := by
  have h1 := parts s f h0
  have h2 : sumI ((List.range s.length).map fun _ => 0) ≤ sumI ((List.range s.length).map (restI s f)) := sumI_rmap_le fun i _ => (rest_bd s f h0 i).1
  have h3 : sumI ((List.range s.length).map (restI s f)) ≤ sumI ((List.range s.length).map fun _ => allS s - 1) := sumI_rmap_le fun i _ => by have := (rest_bd s f h0 i).2; omega
  rw [sumI_rmap_const] at h2 h3
  have hn : 0 < (s.length : Int) := by
    rcases Nat.eq_zero_or_pos s.length with h | h
    · have : s = [] := List.eq_nil_of_length_eq_zero h
      unfold allS at h0
      rw [this, sumI_nil] at h0
      omega
    · omega
  rw [← h1] at h2 h3
  constructor
  · apply Classical.byContradiction
    intro h
    have : allS s * leftI s f < 0 := Int.mul_neg_of_pos_of_neg h0 (by omega)
    omega
  · apply Classical.byContradiction
    intro h
    have h4 : allS s * (s.length : Int) ≤ allS s * leftI s f := Int.mul_le_mul_of_nonneg_left (by omega) (by omega)
    rw [Int.mul_sub, Int.mul_one, Int.mul_comm (s.length : Int)] at h3
    omega

theorem cut_len (s : List Int) (f : Int) : (cutL s f).length = s.length := srtN_len _ _

theorem remK_len (s : List Int) (f : Int) (k : Nat) : (remK s f k).length = s.length := by simp [remK]
theorem remK_0 (s : List Int) (f : Int) : remK s f 0 = flrL s f := by simp [remK, flrL]

theorem remK_at (s : List Int) (f : Int) (k : Nat) {i : Nat} (h : i < s.length) : at0 (remK s f k) i = flrI s f i + if i ∈ (cutL s f).take k then 1 else 0 := at0_rmap _ h

theorem remK_succ (s : List Int) (f : Int) (k : Nat) (hk : k < s.length) : remK s f (k + 1) = (remK s f k).set (nth (cutL s f) k) (at0 (remK s f k) (nth (cutL s f) k) + 1) := by
  have hn := srtN_nth (restI s f) s.length hk
  have hno : nth (srtN (restI s f) s.length) k ∉ (srtN (restI s f) s.length).take k := by rw [take_mem _ _ k (by omega) hk]; omega
  apply List.ext_getElem (by simp [remK])
  intro i h1 h2
  rw [remK_len] at h1
  rw [← at0_lt (by rw [remK_len]; exact h1), ← at0_lt h2, at0_set (by rw [remK_len]; exact hn), remK_at s f _ h1]
  unfold cutL at *
  rw [take_succ_srt _ _ _ hk]
  by_cases e : nth (srtN (restI s f) s.length) k = i
  · subst e
    rw [if_pos rfl, if_pos (by simp), remK_at s f _ hn]
    unfold cutL
    rw [if_neg hno]
    omega
  · rw [if_neg e, remK_at s f _ h1]
    unfold cutL
    by_cases h : i ∈ (srtN (restI s f) s.length).take k
    · rw [if_pos h, if_pos (by simp [h])]
    · rw [if_neg h, if_neg (by
        rw [List.mem_append, List.mem_singleton]
        rintro (h3 | h3)
        · exact h h3
        · exact e h3.symm)]

theorem remK_sum (s : List Int) (f : Int) : ∀ k, k ≤ s.length → sumI (remK s f k) = sumI (flrL s f) + k
  | 0, _ => by rw [remK_0]; simp
  | k + 1, hk => by
    have hn := srtN_nth (restI s f) s.length (a := k) (by omega)
    rw [remK_succ s f k (by omega), sumI_set _ _ _ (by rw [remK_len]; exact hn), remK_sum s f k (by omega)]
    omega

theorem remL_sum (s : List Int) (f : Int) (h0 : 0 < allS s) : sumI (remL s f) = f := by
  have h1 := left_bd s f h0
  unfold remL
  rw [if_neg (by omega), remK_sum _ _ _ (by omega)]
  unfold leftI at h1 ⊢
  omega

theorem remL_len (s : List Int) (f : Int) : (remL s f).length = s.length := by
  unfold remL
  split <;> simp [remK]

theorem remL_at (s : List Int) (f : Int) {i : Nat} (h : i < s.length) : at0 (remL s f) i = if allS s = 0 then 0 else flrI s f i + if i ∈ (cutL s f).take (leftI s f).toNat then 1 else 0 := by
  unfold remL
  split
  · exact at0_rep _ _
  · exact remK_at s f _ h


theorem share_le {s : List Int} (hs : ∀ i, i < s.length → 0 ≤ at0 s i) {i : Nat} (hi : i < s.length) : at0 s i ≤ allS s := by
  have h := sumI_set s i 0 hi
  have h2 := sumI_le (l := List.replicate s.length 0) (k := s.set i 0) (by simp) fun j hj => by
    rw [at0_rep, at0_set hi]
    split
    · exact Int.le_refl _
    · exact hs j (by simpa using hj)
  rw [sumI_rep] at h2
  unfold allS
  omega

theorem flr_bd {s : List Int} (hs : ∀ i, i < s.length → 0 ≤ at0 s i) {f : Int} (hf : 0 ≤ f) (h0 : 0 < allS s) {i : Nat} (hi : i < s.length) : 0 ≤ flrI s f i ∧ flrI s f i ≤ f := by
  have h1 := hs i hi
  constructor
  · exact Int.ediv_nonneg (Int.mul_nonneg hf h1) (by omega)
  · unfold flrI
    have h2 := share_le hs hi
    have h3 : f * at0 s i ≤ f * allS s := Int.mul_le_mul_of_nonneg_left h2 hf
    have := Int.ediv_le_ediv h0 h3
    rwa [Int.mul_ediv_cancel _ (by omega)] at this

end Go.Proofs.Ytmcfibpeenhcnaa


/- Order of the program. -/
set_option linter.unusedSimpArgs false
set_option linter.unusedVariables false
set_option linter.unnecessarySimpa false
namespace Go.Proofs.Ytmcfibpeenhcnaa
open Go Go.V

abbrev nowL (b : Bk) : List Int := nowK b b.say.length
/-- The score, by a dowser's number. -/
def sc (b : Bk) (i : Nat) : Int := sco b (i : Nat) b.found
theorem nowL_at (b : Bk) {i : Nat} (h : i < 4) : (nowL b)[i]?.getD default = sc b i := nowK_at b b.say.length i h
theorem sc_bd {b : Bk} (hv : BV b) (hn : b.say.length < 4294967296) (i : Nat) : -51539607552 ≤ sc b i ∧ sc b i ≤ 51539607552 := by
  have := scoK_bd hv (i : Nat) b.found b.say.length (Nat.le_refl _)
  unfold sc sco
  omega

theorem c79 (b : Bk) (hv : BV b) (hn : b.say.length < 4294967296) (i k : Nat) (hi : i < 4) (hk : k < 4) : Ctr Try.prog 79 ([.int i, .int k] ++ [.ref 4 [.agg ((nowL b).map .int)] 0 0]) (.int (sc b k - sc b i)) := by
  refine ctr_of_wp hmix Try.func79 m79 rfl ?_
  unfold v79
  have h1 := nowL_at b hi
  have h2 := nowL_at b hk
  have h3 := nowK_len b b.say.length
  have b1 := sc_bd hv hn i
  have b2 := sc_bd hv hn k
  unfold nowL at *
  generalize nowK b b.say.length = L at *
  simp -failIfUnchanged (disch := first | omega | (simp <;> omega) | fail) only [go_sem, simprocAttr, h1, h2, h3]

def ordL (b : Bk) : List Nat := srtN (sc b) b.dow.toNat
def ordR (b : Bk) : AV := .tup [IS (if checkB b then nI (ordL b) else []), .int (errB b)]

theorem c35 (b : Bk) (hn : b.say.length < 4294967296) : Ctr Try.prog 35 [DB b] (ordR b) := by
  refine ctr_of_wp hmix Try.func35 m35 rfl ?_
  unfold v35 ordR
  simp -failIfUnchanged (disch := first | omega | (simp <;> omega) | fail) only [go_sem, simprocAttr]
  refine wcall (c66 b true hn) ?_
  unfold opnR askE errB
  cases hcb : checkB b with
  | false =>
    simp -failIfUnchanged (disch := first | omega | (simp <;> omega) | fail) only [go_sem, simprocAttr]
    try simp
  | true =>
    have hv := bv_of hcb
    have hdw := hv.dw
    obtain ⟨n, hdn⟩ : ∃ n : Nat, b.dow = n := ⟨b.dow.toNat, by omega⟩
    have hnl := nowK_len b b.say.length
    have htk : List.take 4 (List.map AV.int (nowL b)) = List.map AV.int (nowL b) := List.take_of_length_le (by simp [hnl])
    have hol : ordL b = srtN (sc b) n := by unfold ordL; rw [hdn]; rfl
    rw [hol]
    simp -failIfUnchanged (disch := first | omega | (simp <;> omega) | fail) only [go_sem, simprocAttr, hdn]
    refine wp_loop' Nat (fun i => ⟨[(4, OB b), (6, .gsl 6 0 i 1 i false), (18, .int n), (19, .int i)], [(K 6 0 i, ⟨(nI (List.range i)).map .int, false⟩)], [], none⟩) (fun i => i ≤ n) (fun i => n - i) 0 (by simp) (by simp -failIfUnchanged (disch := first | omega | (simp <;> omega) | fail) only [go_sem, simprocAttr, hdn]; try simp) ?_
    intro i hi
    have hi : i ≤ n := hi
    simp -failIfUnchanged (disch := first | omega | (simp <;> omega) | fail) only [go_sem, simprocAttr]
    refine wcond_dec (fun hc => ?_) (fun hc => ?_)
    · simp -failIfUnchanged (disch := first | omega | (simp <;> omega) | fail) only [go_sem, simprocAttr, List.length_range]
      refine ⟨i + 1, by dsimp only; omega, by dsimp only; omega, ?_⟩
      dsimp only
      rw [← nI_range_succ]
      simp -failIfUnchanged (disch := first | omega | (simp <;> omega) | fail) only [go_sem, simprocAttr]
      try simp
    · have e : i = n := by omega
      subst e
      simp -failIfUnchanged (disch := first | omega | (simp <;> omega) | fail) only [go_sem, simprocAttr]
      refine wcall (c70 b hv hn) ?_
      simp -failIfUnchanged (disch := first | omega | (simp <;> omega) | fail) only [go_sem, simprocAttr, hnl]
      refine wopsW [] ⟨[(6, .gsl 6 0 i 1 i false), (8, .ptr 8 0)], [(K 6 0 i, ⟨(nI (List.range i)).map .int, false⟩), (8, ⟨(nowL b).map .int, false⟩)], [], none⟩ (by simp -failIfUnchanged (disch := first | omega | (simp <;> omega) | fail) only [go_sem, simprocAttr, hnl]; try simp) trivial ?_
      simp -failIfUnchanged (disch := first | omega | (simp <;> omega) | fail) only [go_sem, simprocAttr]
      refine wcalli (c75 _ 6 i i (by omega) _ 79 _ (sc b) (fun x y hx hy => c79 b hv hn x y (by omega) (by omega)) (fun x _ => by have := sc_bd hv hn x; omega) (by intros; simp -failIfUnchanged (disch := first | omega | (simp <;> omega) | fail) only [go_sem, simprocAttr]) (fun fr c => by simp -failIfUnchanged (disch := first | omega | (simp <;> omega) | fail) only [go_sem, simprocAttr])) ?_
      rintro _ hp' tk' pd' ⟨rfl, rfl, rfl⟩
      have hsl : (srtN (sc b) i).length = i := srtN_len _ _
      simp -failIfUnchanged (disch := first | omega | (simp <;> omega) | fail) only [go_sem, simprocAttr]
      refine wopsN [K 6 0 i] ?_
      simp -failIfUnchanged (disch := first | omega | (simp <;> omega) | fail) only [go_sem, simprocAttr, hsl, chunks_ints, nI_len, Nat.le_refl]

end Go.Proofs.Ytmcfibpeenhcnaa


/- Pay of the program. -/
set_option linter.unusedSimpArgs false
set_option linter.unusedVariables false
set_option linter.unnecessarySimpa false
namespace Go.Proofs.Ytmcfibpeenhcnaa
open Go Go.V

def pos (b : Bk) (i : Nat) : Int := max 0 (sc b i)
def posL (b : Bk) : List Int := (List.range b.dow.toNat).map (pos b)
def payR (b : Bk) : AV := .tup [IS (if checkB b then remL (posL b) b.pence else []), .int (errB b)]

theorem posL_len (b : Bk) : (posL b).length = b.dow.toNat := by simp [posL]
theorem posL_at (b : Bk) {i : Nat} (h : i < b.dow.toNat) : at0 (posL b) i = pos b i := by simp [posL, at0, h]
theorem posL_nn (b : Bk) : ∀ i, i < (posL b).length → 0 ≤ at0 (posL b) i := by
  intro i hi
  rw [posL_at b (by rwa [posL_len] at hi)]
  unfold pos; omega
theorem pos_bd {b : Bk} (hv : BV b) (hn : b.say.length < 4294967296) (i : Nat) : 0 ≤ pos b i ∧ pos b i ≤ 51539607552 := by
  have := sc_bd hv hn i
  unfold pos; omega

theorem scoK_none {b : Bk} (hv : BV b) {d : Int} (hd : b.dow ≤ d) (f : List Int) : ∀ k, k ≤ b.say.length → scoK b d f k = 0
  | 0, _ => rfl
  | k + 1, hk => by
    have h := hv.sy k (by omega)
    simp only [scoK]
    rw [scoK_none hv hd f k (by omega), if_neg (by omega)]
    rfl
theorem sc_none {b : Bk} (hv : BV b) {i : Nat} (hi : b.dow.toNat ≤ i) : sc b i = 0 := scoK_none hv (by have := hv.dw; omega) _ _ (Nat.le_refl _)

/-- The sum over the first k. -/
def allK (b : Bk) (k : Nat) : Int := sumI ((List.range k).map (pos b))
theorem allK_succ (b : Bk) (k : Nat) : allK b (k + 1) = allK b k + pos b k := sumI_rmap_succ _ _
theorem allK_dow {b : Bk} (hv : BV b) : ∀ j, allK b (b.dow.toNat + j) = allS (posL b)
  | 0 => rfl
  | j + 1 => by
    rw [← Nat.add_assoc, allK_succ, allK_dow hv j, pos, sc_none hv (by omega)]
    simp
theorem allK_4 {b : Bk} (hv : BV b) : allK b 4 = allS (posL b) := by
  have := hv.dw
  rw [← allK_dow hv (4 - b.dow.toNat)]
  congr 1
  omega
theorem allK_bd {b : Bk} (hv : BV b) (hn : b.say.length < 4294967296) (k : Nat) : 0 ≤ allK b k ∧ allK b k ≤ 51539607552 * (k : Int) := by
  induction k with
  | zero => simp [allK, sumI_nil]
  | succ k ih =>
    rw [allK_succ]
    have := pos_bd hv hn k
    omega

/-- The array, the first k made at least 0. -/
def l4K (b : Bk) (k : Nat) : List Int := (List.range 4).map fun i => if i < k then pos b i else sc b i
theorem l4K_len (b : Bk) (k : Nat) : (l4K b k).length = 4 := by simp [l4K]
theorem l4K_0 (b : Bk) : l4K b 0 = nowL b := by
  unfold l4K nowL nowK sc sco
  apply List.map_congr_left
  intro i _
  simp
theorem l4K_at (b : Bk) (k : Nat) (h : k < 4) : (l4K b k)[k]?.getD default = sc b k := by simp [l4K, h]
theorem l4K_at4 (b : Bk) {i : Nat} (h : i < 4) : (l4K b 4)[i]?.getD default = pos b i := by simp [l4K, h]
theorem l4K_set (b : Bk) (k : Nat) (h : k < 4) : (l4K b k).set k (pos b k) = l4K b (k + 1) := by
  apply List.ext_getElem (by simp [l4K])
  intro i h1 h2
  rw [List.getElem_set]
  simp only [l4K, List.getElem_map, List.getElem_range]
  by_cases e : k = i
  · subst e
    rw [if_pos rfl, if_pos (by omega)]
  · rw [if_neg e]
    by_cases h3 : i < k
    · rw [if_pos h3, if_pos (by omega)]
    · rw [if_neg h3, if_neg (by omega)]
theorem l4K_set1 (b : Bk) (k : Nat) (h : k < 4) : (l4K b (k + 1))[k]?.getD default = pos b k := by simp [l4K, h]

theorem tmod_nn {a b : Int} (h : 0 ≤ a) : Int.tmod a b = a % b := Int.tmod_eq_emod_of_nonneg h
theorem tdiv_nn {a b : Int} (h : 0 ≤ a) : Int.tdiv a b = a / b := Int.tdiv_eq_ediv_of_nonneg h
theorem mul_bd {f s : Int} (hf : 0 ≤ f ∧ f ≤ 999) (hs : 0 ≤ s ∧ s ≤ 51539607552) : 0 ≤ f * s ∧ f * s ≤ 51488067944448 := by
  have a := Int.mul_nonneg hf.1 hs.1
  have b : f * s ≤ 999 * s := Int.mul_le_mul_of_nonneg_right hf.2 hs.1
  omega

abbrev payC (b : Bk) : List AV := [OB b, .ref 4 [.agg ((l4K b 4).map .int)] 0 0, .ref 1 [.agg [.int (allS (posL b))]] 0 0]

theorem c76 (b : Bk) (hv : BV b) (hn : b.say.length < 4294967296) (h0 : 0 < allS (posL b)) (i k : Nat) (hi : i < b.dow.toNat) (hk : k < b.dow.toNat) : Ctr Try.prog 76 ([.int i, .int k] ++ payC b) (.int (restI (posL b) b.pence k - restI (posL b) b.pence i)) := by
  refine ctr_of_wp hmix Try.func76 m76 rfl ?_
  unfold v76 payC
  have hdw := hv.dw
  have hpn := hv.pn
  have h1 := l4K_at4 b (i := i) (by omega)
  have h2 := l4K_at4 b (i := k) (by omega)
  have h3 := l4K_len b 4
  have m1 := mul_bd hpn (pos_bd hv hn i)
  have m2 := mul_bd hpn (pos_bd hv hn k)
  have r1 := rest_bd (posL b) b.pence h0 i
  have r2 := rest_bd (posL b) b.pence h0 k
  have e1 : restI (posL b) b.pence i = b.pence * pos b i % allS (posL b) := by unfold restI; rw [posL_at b hi]
  have e2 : restI (posL b) b.pence k = b.pence * pos b k % allS (posL b) := by unfold restI; rw [posL_at b hk]
  have hab := allK_bd hv hn 4
  rw [allK_4 hv] at hab
  rw [e1] at r1 ⊢
  rw [e2] at r2 ⊢
  generalize l4K b 4 = L at *
  simp -failIfUnchanged (disch := first | omega | (simp <;> omega) | fail) only [go_sem, simprocAttr, h1, h2, h3, tmod_nn m1.1, tmod_nn m2.1]

def outI (s : List Int) (f : Int) (i : Nat) : List Int := (List.range s.length).map fun j => if j < i then flrI s f j else 0
theorem outI_0 (s : List Int) (f : Int) : outI s f 0 = List.replicate s.length 0 := by
  unfold outI
  apply List.ext_getElem (by simp)
  intro i h1 h2
  simp
theorem outI_n (s : List Int) (f : Int) : outI s f s.length = flrL s f := by
  unfold outI flrL
  exact List.map_congr_left fun i hi => by rw [if_pos (List.mem_range.1 hi)]
theorem outI_len (s : List Int) (f : Int) (i : Nat) : (outI s f i).length = s.length := by simp [outI]
theorem outI_set (s : List Int) (f : Int) (i : Nat) (hi : i < s.length) : (outI s f i).set i (flrI s f i) = outI s f (i + 1) := by
  apply List.ext_getElem (by simp [outI])
  intro j h1 h2
  simp only [outI, List.length_map, List.length_range] at h2
  rw [List.getElem_set]
  by_cases e : i = j
  · subst e
    simp [outI]
  · rw [if_neg e]
    simp only [outI, List.getElem_map, List.getElem_range]
    by_cases h3 : j < i
    · rw [if_pos h3, if_pos (by omega)]
    · rw [if_neg h3, if_neg (by omega)]
theorem outI_get1 (s : List Int) (f : Int) (i : Nat) (hi : i < s.length) : (outI s f (i + 1))[i]?.getD default = flrI s f i := by simp [outI, hi]
def lefK (s : List Int) (f : Int) (i : Nat) : Int := f - sumI ((List.range i).map (flrI s f))
theorem lefK_succ (s : List Int) (f : Int) (i : Nat) : lefK s f (i + 1) = lefK s f i - flrI s f i := by unfold lefK; rw [sumI_rmap_succ]; omega
theorem lefK_bd {s : List Int} (hs : ∀ i, i < s.length → 0 ≤ at0 s i) {f : Int} (hf : 0 ≤ f) (h0 : 0 < allS s) : ∀ i, i ≤ s.length → f - f * (i : Int) ≤ lefK s f i ∧ lefK s f i ≤ f
  | 0, _ => by simp [lefK, sumI_nil]
  | i + 1, hi => by
    have ih := lefK_bd hs hf h0 i (by omega)
    have hb := flr_bd hs hf h0 (i := i) (by omega)
    have e : f * ((i + 1 : Nat) : Int) = f * i + f := by rw [Int.natCast_succ, Int.mul_add, Int.mul_one]
    rw [lefK_succ]
    omega

theorem c31 (b : Bk) (hn : b.say.length < 4294967296) : Ctr Try.prog 31 [DB b] (payR b) := by
  refine ctr_of_wp hmix Try.func31 m31 rfl ?_
  unfold v31 payR
  simp -failIfUnchanged (disch := first | omega | (simp <;> omega) | fail) only [go_sem, simprocAttr]
  refine wcall (c66 b true hn) ?_
  unfold opnR askE errB
  cases hcb : checkB b with
  | false =>
    simp -failIfUnchanged (disch := first | omega | (simp <;> omega) | fail) only [go_sem, simprocAttr]
    try simp
  | true =>
    have hv := bv_of hcb
    have hdw := hv.dw
    have hpn := hv.pn
    obtain ⟨n, hdn⟩ : ∃ n : Nat, b.dow = n := ⟨b.dow.toNat, by omega⟩
    have hdn2 : b.dow.toNat = n := by omega
    have hnl := nowK_len b b.say.length
    have htk : List.take 4 (List.map AV.int (nowL b)) = List.map AV.int (nowL b) := List.take_of_length_le (by simp [hnl])
    simp -failIfUnchanged (disch := first | omega | (simp <;> omega) | fail) only [go_sem, simprocAttr, hdn]
    refine wcall (c70 b hv hn) ?_
    simp -failIfUnchanged (disch := first | omega | (simp <;> omega) | fail) only [go_sem, simprocAttr, hnl]
    refine wp_loop' Nat (fun i => ⟨[(1, .ptr 1 0), (6, .bsl 25 0 1 n false), (7, .ptr 7 0), (8, .ptr 8 0), (28, .int i)], [(1, ⟨[.int b.depth, IS b.found, .int n, SL b.say, .int b.pence], false⟩), (25, ⟨(List.replicate n (0 : Int)).map .int, false⟩), (7, ⟨(l4K b i).map .int, false⟩), (8, ⟨[.int (allK b i)], false⟩)], [], none⟩) (fun i => i ≤ 4) (fun i => 4 - i) 0 (by simp) (by simp -failIfUnchanged (disch := first | omega | (simp <;> omega) | fail) only [go_sem, simprocAttr, hnl, hdn, l4K_0]; simp [allK, sumI_nil]) ?_
    intro i hi
    have hi : i ≤ 4 := hi
    simp -failIfUnchanged (disch := first | omega | (simp <;> omega) | fail) only [go_sem, simprocAttr]
    refine wcond_dec (fun hc => ?_) (fun hc => ?_)
    · have hi4 : i < 4 := by omega
      have h1 := l4K_at b i hi4
      have h2 := l4K_len b i
      have h3 : (l4K b i).set i (max 0 (sc b i)) = l4K b (i + 1) := l4K_set b i hi4
      have h4 := l4K_set1 b i hi4
      have h5 := l4K_len b (i + 1)
      have h6 := allK_bd hv hn i
      have h7 := pos_bd hv hn i
      simp -failIfUnchanged (disch := first | omega | (simp <;> omega) | fail) only [go_sem, simprocAttr, h1, h2, h3, h4, h5]
      refine ⟨i + 1, by dsimp only; omega, by dsimp only; omega, ?_⟩
      dsimp only
      rw [allK_succ]
      simp -failIfUnchanged (disch := first | omega | (simp <;> omega) | fail) only [go_sem, simprocAttr, scopes_ints]
      try simp
    · obtain rfl : i = 4 := by omega
      rw [allK_4 hv]
      have hl4 := l4K_len b 4
      have hpl := posL_len b
      rw [hdn2] at hpl
      simp -failIfUnchanged (disch := first | omega | (simp <;> omega) | fail) only [go_sem, simprocAttr]
      refine wcond_dec (fun h0 => ?_) (fun h0 => ?_)
      · have hr : remL (posL b) b.pence = List.replicate n 0 := by unfold remL; rw [if_pos h0, hpl]
        rw [hr]
        simp -failIfUnchanged (disch := first | omega | (simp <;> omega) | fail) only [go_sem, simprocAttr, chunks_ints, List.length_replicate]
        try simp
        try rfl
      · have hab := allK_bd hv hn 4
        rw [allK_4 hv] at hab
        have h0' : 0 < allS (posL b) := by omega
        have hnn := posL_nn b
        have hn0 : 0 < n := by
          have := left_bd (posL b) b.pence h0'
          omega
        simp -failIfUnchanged (disch := first | omega | (simp <;> omega) | fail) only [go_sem, simprocAttr]
        refine wp_loop' Nat (fun i => ⟨[(1, .ptr 1 0), (6, .bsl 25 0 1 n false), (7, .ptr 7 0), (8, .ptr 8 0), (10, .int (lefK (posL b) b.pence i)), (11, .gsl 11 0 i 1 i false), (49, .int n), (50, .int i)],
          [(K 11 0 i, ⟨(nI (List.range i)).map .int, false⟩), (1, ⟨[.int b.depth, IS b.found, .int n, SL b.say, .int b.pence], false⟩), (25, ⟨(outI (posL b) b.pence i).map .int, false⟩), (7, ⟨(l4K b 4).map .int, false⟩), (8, ⟨[.int (allS (posL b))], false⟩)], [], none⟩) (fun i => i ≤ n) (fun i => n - i) 0 (by simp) (by simp -failIfUnchanged (disch := first | omega | (simp <;> omega) | fail) only [go_sem, simprocAttr, scopes_ints, outI_0, hpl]; simp [lefK, sumI_nil]) ?_
        intro i hi
        have hi : i ≤ n := hi
        simp -failIfUnchanged (disch := first | omega | (simp <;> omega) | fail) only [go_sem, simprocAttr]
        refine wcond_dec (fun hc => ?_) (fun hc => ?_)
        · have hlt : i < n := by omega
          have h1 := l4K_at4 b (i := i) (by omega)
          have hm := mul_bd hpn (pos_bd hv hn i)
          have hfe : b.pence * pos b i / allS (posL b) = flrI (posL b) b.pence i := by unfold flrI; rw [posL_at b (by omega)]
          have hfb := flr_bd hnn hpn.1 h0' (i := i) (by omega)
          have hol := outI_len (posL b) b.pence i
          have hset := outI_set (posL b) b.pence i (by omega)
          have hget := outI_get1 (posL b) b.pence i (by omega)
          have hol2 := outI_len (posL b) b.pence (i + 1)
          have hlb := lefK_bd hnn hpn.1 h0' i (by omega)
          have hpi : b.pence * (i : Int) ≤ 999 * 4 := by
            have a : b.pence * (i : Int) ≤ 999 * (i : Int) := Int.mul_le_mul_of_nonneg_right hpn.2 (by omega)
            omega
          simp -failIfUnchanged (disch := first | omega | (simp <;> omega) | fail) only [go_sem, simprocAttr, h1, hl4, tdiv_nn hm.1, hfe, hol, hset, hget, hol2, hpl, List.length_range]
          refine ⟨i + 1, by dsimp only; omega, by dsimp only; omega, ?_⟩
          dsimp only
          rw [lefK_succ, ← nI_range_succ]
          simp -failIfUnchanged (disch := first | omega | (simp <;> omega) | fail) only [go_sem, simprocAttr, scopes_ints]
          try simp
        · have e : i = n := by omega
          subst e
          have hout := outI_n (posL b) b.pence
          rw [hpl] at hout
          have hlf : lefK (posL b) b.pence i = leftI (posL b) b.pence := by
            unfold lefK leftI flrL
            rw [hpl]
          rw [hout, hlf]
          simp -failIfUnchanged (disch := first | omega | (simp <;> omega) | fail) only [go_sem, simprocAttr]
          refine wopsW [] ⟨[(1, .ptr 1 0), (6, .bsl 25 0 1 i false), (7, .ptr 7 0), (8, .ptr 8 0), (10, .int (leftI (posL b) b.pence)), (11, .gsl 11 0 i 1 i false)],
            [(K 11 0 i, ⟨(nI (List.range i)).map .int, false⟩), (25, ⟨(flrL (posL b) b.pence).map .int, false⟩), (7, ⟨(l4K b 4).map .int, false⟩), (8, ⟨[.int (allS (posL b))], false⟩), (1, ⟨[.int b.depth, IS b.found, .int i, SL b.say, .int b.pence], false⟩)], [], none⟩ (by simp -failIfUnchanged (disch := first | omega | (simp <;> omega) | fail) only [go_sem, simprocAttr, scopes_ints, nI_len]; try simp) trivial ?_
          simp -failIfUnchanged (disch := first | omega | (simp <;> omega) | fail) only [go_sem, simprocAttr, hl4]
          have hc76 : ∀ x y, x < i → y < i → Ctr Try.prog 76 ([.int x, .int y] ++ payC b) (.int (restI (posL b) b.pence y - restI (posL b) b.pence x)) := fun x y hx hy => c76 b hv hn h0' x y (by omega) (by omega)
          unfold payC OB DB at hc76
          rw [hdn] at hc76
          refine wcalli (c75 _ 11 i i (by omega) _ 76 _ (restI (posL b) b.pence) hc76 (fun x _ => by have := rest_bd (posL b) b.pence h0' x; omega) (by intros; simp -failIfUnchanged (disch := first | omega | (simp <;> omega) | fail) only [go_sem, simprocAttr, scopes_ints]; try simp) (fun fr c => by simp -failIfUnchanged (disch := first | omega | (simp <;> omega) | fail) only [go_sem, simprocAttr]; try simp)) ?_
          rintro _ hp' tk' pd' ⟨rfl, rfl, rfl⟩
          have hcut : srtN (restI (posL b) b.pence) i = cutL (posL b) b.pence := by unfold cutL; rw [hpl]
          rw [hcut]
          have hcl := cut_len (posL b) b.pence
          rw [hpl] at hcl
          have hlb := left_bd (posL b) b.pence h0'
          rw [hpl] at hlb
          have hfll : (flrL (posL b) b.pence).length = i := by simp [flrL, hpl]
          have hle : (i ≤ (nI (cutL (posL b) b.pence)).length) = True := eq_true (by rw [nI_len]; omega)
          have hnl2 : (nI (cutL (posL b) b.pence)).length = i := by rw [nI_len]; exact hcl
          obtain ⟨q, hq⟩ : ∃ q : Nat, leftI (posL b) b.pence = q := ⟨(leftI (posL b) b.pence).toNat, by omega⟩
          rw [hq] at hlb
          have hqn : q < i := by omega
          have htl : ((nI (cutL (posL b) b.pence)).take q).length = q := by rw [List.length_take, hnl2]; omega
          simp -failIfUnchanged (disch := first | omega | (simp <;> omega) | fail) only [go_sem, simprocAttr]
          refine wopsN [K 11 0 i] ?_
          simp -failIfUnchanged (disch := first | omega | (simp <;> omega) | fail) only [go_sem, simprocAttr, hle, chunks_ints, hnl2, Nat.le_refl, hq]
          refine wp_loop' Nat (fun k => ⟨[(6, .bsl 25 0 1 i false), (80, .sl 1 (((nI (cutL (posL b) b.pence)).take q).map .int) .sh), (81, .int (q : Nat)), (82, .int (k : Nat))],
            [(25, ⟨(remK (posL b) b.pence k).map .int, false⟩)], [], none⟩) (fun k => k ≤ q) (fun k => q - k) 0 (by simp) (by simp -failIfUnchanged (disch := first | omega | (simp <;> omega) | fail) only [go_sem, simprocAttr]; simp [remK_0, List.map_take, hcl]; try omega) ?_
          intro j hj
          have hj : j ≤ q := hj
          have hrl := remK_len (posL b) b.pence j
          rw [hpl] at hrl
          simp -failIfUnchanged (disch := first | omega | (simp <;> omega) | fail) only [go_sem, simprocAttr]
          refine wcond_dec (fun h3 => ?_) (fun h3 => ?_)
          · have hjq : j < q := by omega
            have hjv : ((nI (cutL (posL b) b.pence)).take q)[j]?.getD default = ((nth (cutL (posL b) b.pence) j : Nat) : Int) := by
              rw [List.getElem?_take_of_lt hjq, nI_get]
            have hct : nth (cutL (posL b) b.pence) j < (posL b).length := srtN_nth _ _ (by omega)
            have hrk := remK_at (posL b) b.pence j hct
            have hfb := flr_bd hnn hpn.1 h0' hct
            have hrb : 0 ≤ (remK (posL b) b.pence j)[nth (cutL (posL b) b.pence) j]?.getD default ∧ (remK (posL b) b.pence j)[nth (cutL (posL b) b.pence) j]?.getD default ≤ 1000 := by
              show 0 ≤ at0 _ _ ∧ at0 _ _ ≤ 1000
              rw [hrk]
              split <;> omega
            have hset := remK_succ (posL b) b.pence j (by omega)
            rw [hpl] at hct
            generalize nth (cutL (posL b) b.pence) j = c at *
            simp -failIfUnchanged (disch := first | omega | (simp <;> omega) | fail) only [go_sem, simprocAttr, hjv]
            refine ⟨j + 1, by dsimp only; omega, by dsimp only; omega, ?_⟩
            dsimp only
            rw [hset]
            simp -failIfUnchanged (disch := first | omega | (simp <;> omega) | fail) only [go_sem, simprocAttr]
            try simp
          · have e : j = q := by omega
            subst e
            have hle3 : (i ≤ (remK (posL b) b.pence j).length) = True := eq_true (by omega)
            simp -failIfUnchanged (disch := first | omega | (simp <;> omega) | fail) only [go_sem, simprocAttr, hle3, chunks_ints, hrl, Nat.le_refl]
            unfold remL
            rw [if_neg h0, hq, Int.toNat_natCast]

end Go.Proofs.Ytmcfibpeenhcnaa


/- Plain law of guessing. -/
set_option linter.unusedSimpArgs false
set_option linter.unusedVariables false
set_option linter.unnecessarySimpa false
namespace Go.Proofs.Ytmcfibpeenhcnaa
open Go Go.V

/-- The cases with one saying more. -/
def stepN (D : Nat) (cs : List Nat) (w : Nat) : List Nat := (List.range (cs.length + 1)).map fun k => nth cs k * (D - w) + (if k = 0 then 0 else nth cs (k - 1) * w)
def caseN (D : Nat) (ws : List Nat) : List Nat := ws.foldl (stepN D) [1]

theorem stepN_len (D : Nat) (cs : List Nat) (w : Nat) : (stepN D cs w).length = cs.length + 1 := by simp [stepN]
theorem caseN_snoc (D : Nat) (ws : List Nat) (w : Nat) : caseN D (ws ++ [w]) = stepN D (caseN D ws) w := by simp [caseN, List.foldl_append]
theorem nth_cons {x : Nat} {l : List Nat} {i : Nat} : nth (x :: l) (i + 1) = nth l i := by simp [nth]
theorem nth_le (l : List Nat) (i : Nat) : nth l i ≤ l.sum := by
  induction l generalizing i with
  | nil => simp [nth]
  | cons x r ih =>
    cases i with
    | zero => simp [nth]
    | succ i => rw [nth_cons, List.sum_cons]; have := ih i; omega

/-- Sums by numbers. -/
def smN (f : Nat → Nat) : Nat → Nat
  | 0 => 0
  | n + 1 => smN f n + f n
theorem smN_add (f g : Nat → Nat) : ∀ n, smN (fun i => f i + g i) n = smN f n + smN g n
  | 0 => rfl
  | n + 1 => by simp only [smN]; rw [smN_add f g n]; omega
theorem smN_mul (f : Nat → Nat) (c : Nat) : ∀ n, smN (fun i => f i * c) n = smN f n * c
  | 0 => by simp [smN]
  | n + 1 => by simp only [smN]; rw [smN_mul f c n, Nat.add_mul]
theorem smN_congr {f g : Nat → Nat} : ∀ n, (∀ i, i < n → f i = g i) → smN f n = smN g n
  | 0, _ => rfl
  | n + 1, h => by simp only [smN]; rw [smN_congr n fun i hi => h i (by omega), h n (by omega)]
theorem sum_range (f : Nat → Nat) (n : Nat) : ((List.range n).map f).sum = smN f n := by
  induction n with
  | zero => rfl
  | succ n ih => rw [List.range_succ, List.map_append, List.sum_append, ih]; simp [smN]
theorem smN_head (f : Nat → Nat) : ∀ n, smN f (n + 1) = f 0 + smN (fun i => f (i + 1)) n
  | 0 => by simp [smN]
  | n + 1 => by rw [smN, smN_head f n]; simp only [smN]; omega
theorem smN_nth (l : List Nat) : smN (nth l) l.length = l.sum := by
  induction l with
  | nil => rfl
  | cons x r ih =>
    rw [List.length_cons, smN_head, List.sum_cons]
    show nth (x :: r) 0 + smN (fun i => nth (x :: r) (i + 1)) r.length = _
    rw [smN_congr (g := nth r) _ fun i _ => nth_cons, ih]
    rfl

theorem stepN_sum (D : Nat) (cs : List Nat) (w : Nat) (hw : w ≤ D) : (stepN D cs w).sum = cs.sum * D := by
  unfold stepN
  rw [sum_range, smN_add]
  have e1 : smN (fun k => nth cs k * (D - w)) (cs.length + 1) = cs.sum * (D - w) := by
    rw [smN_mul]
    simp only [smN]
    rw [smN_nth]
    have : nth cs cs.length = 0 := by simp [nth]
    rw [this, Nat.add_zero]
  have e2 : smN (fun k => if k = 0 then 0 else nth cs (k - 1) * w) (cs.length + 1) = cs.sum * w := by
    rw [smN_head, if_pos rfl, Nat.zero_add, smN_congr (g := fun i => nth cs i * w) _ fun i _ => by rw [if_neg (by omega), Nat.add_sub_cancel], smN_mul, smN_nth]
  rw [e1, e2, ← Nat.mul_add]
  congr 1
  omega

theorem caseN_len (D : Nat) (ws : List Nat) : (caseN D ws).length = ws.length + 1 := by
  unfold caseN
  have : ∀ cs : List Nat, (ws.foldl (stepN D) cs).length = cs.length + ws.length := by
    induction ws with
    | nil => simp
    | cons w r ih => intro cs; rw [List.foldl_cons, ih, stepN_len, List.length_cons]; omega
  rw [this]
  simp
  omega

theorem caseN_sum (D : Nat) : ∀ ws : List Nat, (∀ w ∈ ws, w ≤ D) → (caseN D ws).sum = D ^ ws.length := by
  have key : ∀ (ws : List Nat) (cs : List Nat), (∀ w ∈ ws, w ≤ D) → (ws.foldl (stepN D) cs).sum = cs.sum * D ^ ws.length := by
    intro ws
    induction ws with
    | nil => intro cs _; simp
    | cons w r ih =>
      intro cs h
      rw [List.foldl_cons, ih _ fun x hx => h x (by simp [hx]), stepN_sum D cs w (h w (by simp)), List.length_cons, Nat.pow_succ, Nat.mul_assoc, Nat.mul_comm D]
  intro ws h
  unfold caseN
  rw [key ws [1] h]
  simp

/-- How many sayings of a dowser stand ahead of one. -/
def cntK (b : Bk) (d : Int) : Nat → Nat
  | 0 => 0
  | k + 1 => cntK b d k + if (syt b k).d = d then 1 else 0

theorem bef_trans {x y z : Sy} (h1 : bef x y = true) (h2 : bef y z = true) : bef x z = true := by
  simp only [bef, decide_eq_true_eq] at *
  omega
theorem od_lt {b : Bk} (hv : BV b) {i : Nat} : ∀ j, i < j → j < b.say.length → bef (syt b i) (syt b j) = true
  | 0, h, _ => by omega
  | j + 1, h, hj => by
    by_cases e : i = j
    · subst e; exact hv.od i hj
    · exact bef_trans (od_lt hv j (by omega) (by omega)) (hv.od j hj)
theorem cntK_le {b : Bk} (hv : BV b) (d : Int) : ∀ (k : Nat), k ≤ b.say.length → ∀ q : Nat, (∀ i, i < k → (syt b i).d = d → (syt b i).p < (q : Int)) → cntK b d k ≤ q
  | 0, _, q, _ => Nat.zero_le _
  | k + 1, hk, q, h => by
    have hs := hv.sy k (by omega)
    simp only [cntK]
    by_cases e : (syt b k).d = d
    · rw [if_pos e]
      have hq := h k (by omega) e
      have := cntK_le hv d k (by omega) (syt b k).p.toNat fun i hi he => by
        have hb := od_lt hv k hi (by omega)
        simp only [bef, decide_eq_true_eq] at hb
        omega
      omega
    · rw [if_neg e]
      exact cntK_le hv d k (by omega) q fun i hi he => h i (by omega) he
theorem cntK_6 {b : Bk} (hv : BV b) (d : Int) {k : Nat} (hk : k ≤ b.say.length) : cntK b d k ≤ 6 := by
  have := hv.fl
  have := cntK_le hv d k hk b.found.length fun i hi _ => (hv.sy i (by omega)).2.1.2
  omega

/-- The widths of the first k sayings of a dowser that are not open, and how many are right. -/
def isW (b : Bk) (d : Int) (i : Nat) : Prop := (syt b i).d = d ∧ b.found[(syt b i).p.toNat]?.getD default ≠ 0
instance (b : Bk) (d : Int) (i : Nat) : Decidable (isW b d i) := by unfold isW; exact inferInstance
def hitB (b : Bk) (i : Nat) : Bool := within (b.found[(syt b i).p.toNat]?.getD default) (syt b i).lo (syt b i).hi
def widK (b : Bk) (d : Int) : Nat → List Nat
  | 0 => []
  | k + 1 => if isW b d k then widK b d k ++ [(wid (syt b k)).toNat] else widK b d k
def rigK (b : Bk) (d : Int) : Nat → Nat
  | 0 => 0
  | k + 1 => rigK b d k + if isW b d k ∧ hitB b k = true then 1 else 0

theorem widK_len (b : Bk) (d : Int) : ∀ k, (widK b d k).length ≤ cntK b d k
  | 0 => Nat.le_refl _
  | k + 1 => by
    have := widK_len b d k
    simp only [widK, cntK]
    by_cases h : isW b d k
    · rw [if_pos h, if_pos h.1]; simp; omega
    · rw [if_neg h]; omega
theorem rigK_le (b : Bk) (d : Int) : ∀ k, rigK b d k ≤ (widK b d k).length
  | 0 => Nat.le_refl _
  | k + 1 => by
    have := rigK_le b d k
    simp only [widK, rigK]
    by_cases h : isW b d k
    · rw [if_pos h, List.length_append]
      split
      · simp; omega
      · simp; omega
    · rw [if_neg h, if_neg (fun x => h x.1)]; omega
theorem wid_bd {b : Bk} (hv : BV b) {i : Nat} (hi : i < b.say.length) : 1 ≤ wid (syt b i) ∧ wid (syt b i) ≤ b.depth := by
  rw [wid_eq hv hi]
  have := hv.sy i hi
  omega
theorem widK_le {b : Bk} (hv : BV b) (d : Int) : ∀ k, k ≤ b.say.length → ∀ w ∈ widK b d k, 1 ≤ w ∧ w ≤ b.depth.toNat
  | 0, _, w, h => by simp [widK] at h
  | k + 1, hk, w, h => by
    have hw := wid_bd hv (i := k) (by omega)
    simp only [widK] at h
    split at h
    · rcases List.mem_append.1 h with h | h
      · exact widK_le hv d k (by omega) w h
      · simp at h; omega
    · exact widK_le hv d k (by omega) w h

def wids (b : Bk) (d : Int) : List Nat := widK b d b.say.length
def rig (b : Bk) (d : Int) : Nat := rigK b d b.say.length

/-- Fractions. -/
structure Pr where
  a : Int
  b : Int
  deriving Inhabited, DecidableEq
abbrev PR (p : Pr) : AV := .agg [.int p.a, .int p.b]
/-- In lowest terms. -/
def low (n d : Nat) : Pr := ⟨((n / Nat.gcd n d : Nat) : Int), ((d / Nat.gcd n d : Nat) : Int)⟩
theorem gcd_step (a b : Nat) : Nat.gcd b (a % b) = Nat.gcd a b := by
  rw [Nat.gcd_comm a b, Nat.gcd_rec b a, Nat.gcd_comm]

/-- The chance that at least r of some sayings are right. -/
def chcN (D : Nat) (ws : List Nat) (r : Nat) : Pr := low ((caseN D ws).drop r).sum (D ^ ws.length)

theorem pow12 {D n : Nat} (hD : D ≤ 12) (hn : n ≤ 12) : D ^ n ≤ 8916100448256 := by
  calc D ^ n ≤ 12 ^ n := Nat.pow_le_pow_left hD n
    _ ≤ 12 ^ 12 := Nat.pow_le_pow_right (by omega) hn
    _ = 8916100448256 := by decide
theorem drop_sum (l : List Nat) (r : Nat) : (l.drop r).sum ≤ l.sum := by
  have : l.sum = (l.take r).sum + (l.drop r).sum := by rw [← List.sum_append, List.take_append_drop]
  omega

end Go.Proofs.Ytmcfibpeenhcnaa


/- Chance, Shows, More of the program. -/
set_option linter.unusedSimpArgs false
set_option linter.unusedVariables false
set_option linter.unnecessarySimpa false
namespace Go.Proofs.Ytmcfibpeenhcnaa
open Go Go.V

/-- A guess. -/
abbrev GU (cs : List Nat) (A : Nat) : AV := .agg [IS (nI cs), .int A]

/-- The cases with one saying more, from the first i. -/
def outG (D : Nat) (cs : List Nat) (w i : Nat) : List Nat := (List.range (cs.length + 1)).map fun k => (if k < i then nth cs k * (D - w) else 0) + (if k = 0 ∨ i < k then 0 else nth cs (k - 1) * w)
theorem outG_len (D : Nat) (cs : List Nat) (w i : Nat) : (outG D cs w i).length = cs.length + 1 := by simp [outG]
theorem outG_0 (D : Nat) (cs : List Nat) (w : Nat) : nI (outG D cs w 0) = List.replicate (cs.length + 1) 0 := by
  apply List.ext_getElem (by simp [outG])
  intro k h1 h2
  simp only [nI, outG, List.getElem_map, List.getElem_range, List.getElem_replicate]
  rw [if_neg (by omega), if_pos (by omega)]
  rfl
theorem outG_n (D : Nat) (cs : List Nat) (w : Nat) : outG D cs w cs.length = stepN D cs w := by
  unfold outG stepN
  apply List.map_congr_left
  intro k hk
  have hk := List.mem_range.1 hk
  congr 1
  · by_cases e : k < cs.length
    · rw [if_pos e]
    · rw [if_neg e]
      have : nth cs k = 0 := by simp [nth, show cs.length ≤ k by omega]
      rw [this, Nat.zero_mul]
  · by_cases e : k = 0
    · rw [if_pos (.inl e), if_pos e]
    · rw [if_neg (by omega), if_neg e]
theorem outG_nth (D : Nat) (cs : List Nat) (w i k : Nat) (h : k ≤ cs.length) : nth (outG D cs w i) k = (if k < i then nth cs k * (D - w) else 0) + (if k = 0 ∨ i < k then 0 else nth cs (k - 1) * w) := by
  simp [nth, outG, show k < cs.length + 1 by omega]
theorem outG_set (D : Nat) (cs : List Nat) (w i : Nat) (h : i < cs.length) : ((outG D cs w i).set i (nth (outG D cs w i) i + nth cs i * (D - w))).set (i + 1) (nth (outG D cs w i) (i + 1) + nth cs i * w) = outG D cs w (i + 1) := by
  apply List.ext_getElem (by simp [outG])
  intro k h1 h2
  rw [outG_len] at h2
  rw [List.getElem_set, List.getElem_set]
  have e : (outG D cs w i)[k]'(by rw [outG_len]; exact h2) = nth (outG D cs w i) k := by simp [nth, outG_len, h2]
  have e2 : (outG D cs w (i + 1))[k]'(by rw [outG_len]; exact h2) = nth (outG D cs w (i + 1)) k := by simp [nth, outG_len, h2]
  rw [e, e2, outG_nth _ _ _ _ _ (by omega), outG_nth _ _ _ _ _ (by omega), outG_nth _ _ _ _ _ (by omega), outG_nth _ _ _ _ _ (by omega)]
  by_cases e1 : i + 1 = k
  · rw [if_pos e1]
    subst e1
    rw [Nat.add_sub_cancel, if_neg (by omega), if_pos (by omega), if_neg (by omega), if_neg (by omega)]
  · rw [if_neg e1]
    by_cases e3 : i = k
    · subst e3
      rw [if_pos rfl]
      repeat' split
      all_goals omega
    · rw [if_neg e3]
      repeat' split
      all_goals omega

theorem ag92 : aggOf Try.prog 92 = some true := by kernel_rfl
theorem sz92 : szOf Try.prog 92 = some 2 := by kernel_rfl
theorem ag44 : aggOf Try.prog 44 = some true := by kernel_rfl
theorem sz44 : szOf Try.prog 44 = some 2 := by kernel_rfl
attribute [go_sem] ag92 sz92 ag44 sz44

theorem c82 (cs : List Nat) (A w D : Nat) (hw : w ≤ D) (hD : D ≤ 1000) (hB : cs.sum * D ≤ 1000000000000000) (hA : A * D ≤ 1000000000000000) (hl : cs.length ≤ 100) : Ctr Try.prog 82 [GU cs A, .int w, .int D] (GU (stepN D cs w) (A * D)) := by
  refine ctr_of_wp hmix Try.func82 m82g rfl ?_
  unfold v82g
  have e1 : (A : Int) * (D : Int) = ((A * D : Nat) : Int) := by rw [Int.natCast_mul]
  simp -failIfUnchanged (disch := first | omega | (simp <;> omega) | fail) only [go_sem, simprocAttr, e1]
  refine wp_loop' Nat (fun i => ⟨[(1, .int w), (2, .int D), (6, .ptr 6 0), (7, .ptr 7 0), (21, IS (nI cs)), (22, .int cs.length), (23, .int i)], [(14, ⟨(nI (outG D cs w i)).map .int, false⟩), (7, ⟨[.bsl 14 0 1 (cs.length + 1) false, .int ((A * D : Nat) : Int)], false⟩), (6, ⟨[.sl 1 [] .full, .int 0], false⟩)], [], none⟩) (fun i => i ≤ cs.length) (fun i => cs.length - i) 0 (by simp) (by simp -failIfUnchanged (disch := first | omega | (simp <;> omega) | fail) only [go_sem, simprocAttr, outG_0, scopes_ints]; try simp) ?_
  intro i hi
  have hi : i ≤ cs.length := hi
  have hgl := outG_len D cs w i
  have hgl2 : (nI (outG D cs w i)).length = cs.length + 1 := by rw [nI_len]; exact hgl
  have hci : (nI cs).length = cs.length := nI_len cs
  simp -failIfUnchanged (disch := first | omega | (simp <;> omega) | fail) only [go_sem, simprocAttr]
  refine wcond_dec (fun hc => ?_) (fun hc => ?_)
  · have hlt : i < cs.length := by omega
    have b0 := nth_le cs i
    have b1 : nth cs i * D ≤ cs.sum * D := Nat.mul_le_mul_right _ b0
    have b2 : nth cs i * (D - w) ≤ nth cs i * D := Nat.mul_le_mul_left _ (by omega)
    have b3 : nth cs i * w ≤ nth cs i * D := Nat.mul_le_mul_left _ hw
    have v1 : nth (outG D cs w i) i ≤ 1000000000000000 := by
      rw [outG_nth _ _ _ _ _ (by omega), if_neg (by omega)]
      by_cases e : i = 0
      · rw [if_pos (.inl e)]; omega
      · rw [if_neg (by omega)]
        have c0 := nth_le cs (i - 1)
        have c1 : nth cs (i - 1) * D ≤ cs.sum * D := Nat.mul_le_mul_right _ c0
        have c2 : nth cs (i - 1) * w ≤ nth cs (i - 1) * D := Nat.mul_le_mul_left _ hw
        omega
    have v2 : nth (outG D cs w i) (i + 1) = 0 := by
      rw [outG_nth _ _ _ _ _ (by omega), if_neg (by omega), if_pos (by omega)]
    have hset := outG_set D cs w i hlt
    have s1 : ((D : Int) - (w : Int)) = ((D - w : Nat) : Int) := by omega
    have s2 : ((nth cs i : Nat) : Int) * ((D - w : Nat) : Int) = ((nth cs i * (D - w) : Nat) : Int) := by rw [Int.natCast_mul]
    have s3 : ((nth cs i : Nat) : Int) * (w : Int) = ((nth cs i * w : Nat) : Int) := by rw [Int.natCast_mul]
    have s4 : ((nth (outG D cs w i) i : Nat) : Int) + ((nth cs i * (D - w) : Nat) : Int) = ((nth (outG D cs w i) i + nth cs i * (D - w) : Nat) : Int) := by omega
    have s5 : ((nth (outG D cs w i) (i + 1) : Nat) : Int) + ((nth cs i * w : Nat) : Int) = ((nth (outG D cs w i) (i + 1) + nth cs i * w : Nat) : Int) := by omega
    have hset2 : ((nI (outG D cs w i)).set i ((nth (outG D cs w i) i + nth cs i * (D - w) : Nat) : Int)).set (i + 1) ((nth (outG D cs w i) (i + 1) + nth cs i * w : Nat) : Int) = nI (outG D cs w (i + 1)) := by rw [nI_set, nI_set, hset]
    have g1 : (nI cs)[i]?.getD default = ((nth cs i : Nat) : Int) := nI_get cs i
    have g2 : (nI (outG D cs w i))[i]?.getD default = ((nth (outG D cs w i) i : Nat) : Int) := nI_get _ _
    have g3 : ((nI (outG D cs w i)).set i ((nth (outG D cs w i) i + nth cs i * (D - w) : Nat) : Int))[i + 1]?.getD default = ((nth (outG D cs w i) (i + 1) : Nat) : Int) := by rw [List.getElem?_set_ne (by omega)]; exact nI_get _ _
    obtain ⟨L2, hL2⟩ : ∃ L2, nI (outG D cs w (i + 1)) = L2 := ⟨_, rfl⟩
    rw [hL2] at hset2
    generalize nI (outG D cs w i) = L at *
    generalize nth (outG D cs w i) i = x1 at *
    generalize nth (outG D cs w i) (i + 1) = x2 at *
    generalize nI cs = C at *
    have w1 : w64 ((nth cs i * (D - w) : Nat) : Int) = ((nth cs i * (D - w) : Nat) : Int) := w64_id (by omega)
    have w2 : w64 ((nth cs i * w : Nat) : Int) = ((nth cs i * w : Nat) : Int) := w64_id (by omega)
    generalize nth cs i * (D - w) = y1 at *
    generalize nth cs i * w = y2 at *
    simp -failIfUnchanged (disch := first | omega | (simp <;> omega) | fail) only [go_sem, simprocAttr, g1, g2, g3, s1, s2, s3, s4, s5, w1, w2, hgl2, List.length_set, hset2]
    refine ⟨i + 1, by dsimp only; omega, by dsimp only; omega, ?_⟩
    dsimp only
    rw [hL2]
    simp -failIfUnchanged (disch := first | omega | (simp <;> omega) | fail) only [go_sem, simprocAttr, scopes_ints]
    try simp
  · have e : i = cs.length := by omega
    subst e
    rw [outG_n] at hgl2 ⊢
    simp -failIfUnchanged (disch := first | omega | (simp <;> omega) | fail) only [go_sem, simprocAttr, chunks_ints, hgl2, Nat.le_refl]
    try simp

theorem c81 (n d h : Nat) (hn : n ≤ d) (hd : d ≤ 10000000000000) (hh : h ≤ 99) : Ctr Try.prog 81 [.agg [.int n, .int d], .int h] (.bool (decide (100 * n ≤ h * d))) := by
  refine ctr_of_wp hmix Try.func81 m81 rfl ?_
  unfold v81
  have hm : h * d ≤ 99 * d := Nat.mul_le_mul_right _ hh
  have e1 : (100 : Int) * (n : Int) = ((100 * n : Nat) : Int) := by omega
  have e2 : (h : Int) * (d : Int) = ((h * d : Nat) : Int) := by rw [Int.natCast_mul]
  generalize h * d = y at *
  simp -failIfUnchanged (disch := first | omega | (simp <;> omega) | fail) only [go_sem, simprocAttr, e1, e2]
  have : decide (((100 * n : Nat) : Int) ≤ (y : Int)) = decide (100 * n ≤ y) := by congr 1; apply propext; omega
  rw [this]

theorem take_sum_le (l : List Nat) (k : Nat) : (l.take k).sum ≤ l.sum := by
  have : l.sum = (l.take k).sum + (l.drop k).sum := by rw [← List.sum_append, List.take_append_drop]
  omega
theorem take_sum_succ (l : List Nat) (k : Nat) (h : k < l.length) : (l.take (k + 1)).sum = (l.take k).sum + nth l k := by
  rw [List.take_add_one, List.sum_append, List.getElem?_eq_getElem h]
  simp [nth, h]

theorem c72 (cs : List Nat) (A r : Nat) (hr : r ≤ cs.length) (hA : 0 < A) (hA2 : A ≤ 1000000000000000) (hB : cs.sum ≤ 1000000000000000) (hl : cs.length ≤ 100) : Ctr Try.prog 72 [GU cs A, .int r] (PR (low (cs.drop r).sum A)) := by
  refine ctr_of_wp hmix Try.func72 m72 rfl ?_
  unfold v72
  have hci : (nI cs).length = cs.length := nI_len cs
  have hdr : List.drop r (List.map AV.int (nI cs)) = (nI (cs.drop r)).map .int := by simp only [nI, List.map_drop]
  have hds := drop_sum cs r
  have hdl : (cs.drop r).length ≤ 100 := by rw [List.length_drop]; omega
  simp -failIfUnchanged (disch := first | omega | (simp <;> omega) | fail) only [go_sem, simprocAttr, hci, hdr]
  generalize cs.drop r = ds at *
  refine wp_loop' Nat (fun i => ⟨[(2, .ptr 2 0), (4, .ptr 4 0), (5, .int ((ds.take i).sum : Nat)), (13, IS (nI ds)), (14, .int ds.length), (15, .int i)], [(4, ⟨[.int 0, .int 0], false⟩), (2, ⟨[IS (nI cs), .int A], false⟩)], [], none⟩) (fun i => i ≤ ds.length) (fun i => ds.length - i) 0 (by simp) (by simp -failIfUnchanged (disch := first | omega | (simp <;> omega) | fail) only [go_sem, simprocAttr, nI_len]; try simp) ?_
  intro i hi
  have hi : i ≤ ds.length := hi
  have hdi : (nI ds).length = ds.length := nI_len ds
  simp -failIfUnchanged (disch := first | omega | (simp <;> omega) | fail) only [go_sem, simprocAttr]
  refine wcond_dec (fun hc => ?_) (fun hc => ?_)
  · have hlt : i < ds.length := by omega
    have g1 : (nI ds)[i]?.getD default = ((nth ds i : Nat) : Int) := nI_get ds i
    have t1 := take_sum_le ds i
    have t2 := take_sum_succ ds i hlt
    have t3 := take_sum_le ds (i + 1)
    simp -failIfUnchanged (disch := first | omega | (simp <;> omega) | fail) only [go_sem, simprocAttr, g1]
    refine ⟨i + 1, by dsimp only; omega, by dsimp only; omega, ?_⟩
    dsimp only
    rw [t2]
    simp -failIfUnchanged (disch := first | omega | (simp <;> omega) | fail) only [go_sem, simprocAttr]
    try simp
  · have e : i = ds.length := by omega
    subst e
    rw [List.take_length]
    generalize hn : ds.sum = num at *
    have hw1 : (num : Int) ≤ 1000000000000000 := by omega
    simp -failIfUnchanged (disch := first | omega | (simp <;> omega) | fail) only [go_sem, simprocAttr]
    refine wp_loop' (Nat × Nat) (fun x => ⟨[(2, .ptr 2 0), (4, .ptr 4 0), (5, .int num), (8, .int x.1), (9, .int x.2)], [(4, ⟨[.int 0, .int 0], false⟩), (2, ⟨[IS (nI cs), .int A], false⟩)], [], none⟩)
      (fun x => Nat.gcd x.1 x.2 = Nat.gcd num A) (fun x => x.2) (num, A) rfl (by simp -failIfUnchanged (disch := first | omega | (simp <;> omega) | fail) only [go_sem, simprocAttr]; try simp) ?_
    rintro ⟨a, c⟩ hg
    dsimp only at hg ⊢
    simp -failIfUnchanged (disch := first | omega | (simp <;> omega) | fail) only [go_sem, simprocAttr]
    refine wcond_dec (fun h => ?_) (fun h => ?_)
    · have h0 : 0 < c := by omega
      have hlt : a % c < c := Nat.mod_lt _ h0
      simp -failIfUnchanged (disch := first | omega | (simp <;> omega) | fail) only [go_sem, simprocAttr]
      refine ⟨(c, a % c), by dsimp only; rw [gcd_step, hg], by dsimp only; omega, ?_⟩
      simp -failIfUnchanged (disch := first | omega | (simp <;> omega) | fail) only [go_sem, simprocAttr]
      try simp
    · have h0 : c = 0 := by omega
      subst h0
      rw [Nat.gcd_zero_right] at hg
      have hpos : 0 < a := by
        rw [hg]
        exact Nat.gcd_pos_of_pos_right _ hA
      have e0 : ∀ q : Nat, q ≤ 1000000000000000 → w64 (q : Int) = q := fun q h => w64_id (by omega)
      have e1 := e0 (num / a) (Nat.le_trans (Nat.div_le_self num a) (by omega))
      have e2 := e0 (A / a) (Nat.le_trans (Nat.div_le_self A a) hA2)
      simp -failIfUnchanged (disch := first | omega | (simp <;> omega) | fail) only [go_sem, simprocAttr, e1, e2]
      simp [low, hg]

end Go.Proofs.Ytmcfibpeenhcnaa


/- guessed, Chance, Shows, More. -/
set_option linter.unusedSimpArgs false
set_option linter.unusedVariables false
set_option linter.unnecessarySimpa false
namespace Go.Proofs.Ytmcfibpeenhcnaa
open Go Go.V

abbrev dN (b : Bk) : Nat := b.depth.toNat
theorem dN_bd {b : Bk} (hv : BV b) : 1 ≤ dN b ∧ dN b ≤ 12 ∧ ((dN b : Nat) : Int) = b.depth := by have := hv.dp; unfold dN; omega

theorem case_bd {D : Nat} {ws : List Nat} (hD : D ≤ 12) (hw : ∀ w ∈ ws, w ≤ D) (hl : ws.length ≤ 12) : (caseN D ws).sum = D ^ ws.length ∧ D ^ ws.length ≤ 8916100448256 := ⟨caseN_sum D ws hw, pow12 hD hl⟩

theorem c71 (b : Bk) (hv : BV b) (hn : b.say.length < 4294967296) (d : Int) : Ctr Try.prog 71 [OB b, .int d] (.tup [GU (caseN (dN b) (wids b d)) (dN b ^ (wids b d).length), .int (rig b d)]) := by
  refine ctr_of_wp hmix Try.func71 m71 rfl ?_
  unfold v71
  obtain ⟨hD1, hD2, hD3⟩ := dN_bd hv
  simp -failIfUnchanged (disch := first | omega | (simp <;> omega) | fail) only [go_sem, simprocAttr]
  refine wp_loop' Nat (fun i => ⟨[(0, OB b), (1, .int d), (4, .ptr 4 0), (5, .int (rigK b d i)), (14, SL b.say), (15, .int b.say.length), (16, .int i)], [(4, ⟨[IS (nI (caseN (dN b) (widK b d i))), .int ((dN b ^ (widK b d i).length : Nat) : Int)], false⟩)], [], none⟩) (fun i => i ≤ b.say.length) (fun i => b.say.length - i) 0 (by simp) (by simp -failIfUnchanged (disch := first | omega | (simp <;> omega) | fail) only [go_sem, simprocAttr]; simp [widK, rigK, caseN]) ?_
  intro i hi
  have hi : i ≤ b.say.length := hi
  simp -failIfUnchanged (disch := first | omega | (simp <;> omega) | fail) only [go_sem, simprocAttr]
  refine wcond_dec (fun hc => ?_) (fun hc => ?_)
  · have hlt : i < b.say.length := by omega
    obtain ⟨xd, k, xl, xh, hx, hsx, hkl⟩ := say_at hv (n := i) hlt
    have h84 := c84 b ⟨xd, k, xl, xh⟩ (by simp) (by simp; omega)
    have hwb := wid_bd hv hlt
    have h94 := c94 ⟨xd, k, xl, xh⟩
    rw [hsx] at hwb
    have hW : isW b d i = (xd = d ∧ b.found[k]?.getD default ≠ 0) := by unfold isW; rw [hsx]; simp
    have hH : hitB b i = within (b.found[k]?.getD default) xl xh := by unfold hitB; rw [hsx]; simp
    have hcw : ∀ w ∈ widK b d i, w ≤ dN b := fun w hw => (widK_le hv d i (by omega) w hw).2
    have hcl : (widK b d i).length ≤ 6 := Nat.le_trans (widK_len b d i) (cntK_6 hv d (by omega))
    obtain ⟨hcs, hcb⟩ := case_bd hD2 hcw (by omega)
    have hrl := rigK_le b d i
    have hskip : ¬ isW b d i → widK b d (i + 1) = widK b d i ∧ rigK b d (i + 1) = rigK b d i := fun h => by
      simp only [widK, rigK, if_neg h, if_neg (fun x : isW b d i ∧ hitB b i = true => h x.1)]
      exact ⟨trivial, rfl⟩
    simp -failIfUnchanged (disch := first | omega | (simp <;> omega) | fail) only [go_sem, simprocAttr, hx]
    refine WGd_bool (fun h1 => ?_) (fun h1 => ?_)
    · have h1' : xd = d := by simpa using h1
      simp -failIfUnchanged (disch := first | omega | (simp <;> omega) | fail) only [go_sem, simprocAttr, h1]
      refine wcall h84 ?_
      simp -failIfUnchanged (disch := first | omega | (simp <;> omega) | fail) only [go_sem, simprocAttr, h1]
      refine wcond_dec (fun h2 => ?_) (fun h2 => ?_)
      · simp -failIfUnchanged (disch := first | omega | (simp <;> omega) | fail) only [go_sem, simprocAttr]
        refine ⟨i + 1, by dsimp only; omega, by dsimp only; omega, ?_⟩
        obtain ⟨e1, e2⟩ := hskip (by rw [hW]; exact fun x => x.2 h2)
        dsimp only
        rw [e1, e2]
        simp -failIfUnchanged (disch := first | omega | (simp <;> omega) | fail) only [go_sem, simprocAttr]
        try simp
      · have hyes : isW b d i := by rw [hW]; exact ⟨h1', h2⟩
        obtain ⟨w, hwN⟩ : ∃ w : Nat, wid ⟨xd, k, xl, xh⟩ = w := ⟨(wid ⟨xd, k, xl, xh⟩).toNat, by omega⟩
        have hwk : widK b d (i + 1) = widK b d i ++ [w] := by
          simp only [widK, if_pos hyes]
          rw [hsx, hwN]
          rfl
        rw [hwN] at hwb h94
        have hpw : dN b ^ (widK b d i).length * dN b = dN b ^ (widK b d (i + 1)).length := by rw [hwk, List.length_append, ← Nat.pow_succ]; rfl
        have hcb2 : dN b ^ (widK b d (i + 1)).length ≤ 8916100448256 := pow12 hD2 (by rw [hwk, List.length_append]; simp; omega)
        have h82 := c82 (caseN (dN b) (widK b d i)) (dN b ^ (widK b d i).length) w (dN b) (by omega) (by omega) (by rw [hcs, hpw]; omega) (by rw [hpw]; omega) (by rw [caseN_len]; omega)
        rw [hpw, ← caseN_snoc, ← hwk, hD3] at h82
        simp -failIfUnchanged (disch := first | omega | (simp <;> omega) | fail) only [go_sem, simprocAttr, h1, hx]
        refine wcall h94 ?_
        simp -failIfUnchanged (disch := first | omega | (simp <;> omega) | fail) only [go_sem, simprocAttr]
        refine wcall h82 ?_
        simp -failIfUnchanged (disch := first | omega | (simp <;> omega) | fail) only [go_sem, simprocAttr]
        refine wcall (c80 _ _ _) ?_
        rw [← hH]
        simp -failIfUnchanged (disch := first | omega | (simp <;> omega) | fail) only [go_sem, simprocAttr]
        refine wcond_bool (fun h3 => ?_) (fun h3 => ?_)
        · have er : rigK b d (i + 1) = rigK b d i + 1 := by simp only [rigK, if_pos (And.intro hyes h3)]
          simp -failIfUnchanged (disch := first | omega | (simp <;> omega) | fail) only [go_sem, simprocAttr]
          refine ⟨i + 1, by dsimp only; omega, by dsimp only; omega, ?_⟩
          dsimp only
          rw [er]
          simp -failIfUnchanged (disch := first | omega | (simp <;> omega) | fail) only [go_sem, simprocAttr]
          try simp
        · have er : rigK b d (i + 1) = rigK b d i := by simp only [rigK]; rw [if_neg (fun x => by rw [h3] at x; exact Bool.false_ne_true x.2)]; rfl
          simp -failIfUnchanged (disch := first | omega | (simp <;> omega) | fail) only [go_sem, simprocAttr]
          refine ⟨i + 1, by dsimp only; omega, by dsimp only; omega, ?_⟩
          dsimp only
          rw [er]
          simp -failIfUnchanged (disch := first | omega | (simp <;> omega) | fail) only [go_sem, simprocAttr]
          try simp
    · have h1' : ¬ xd = d := by simpa using h1
      simp -failIfUnchanged (disch := first | omega | (simp <;> omega) | fail) only [go_sem, simprocAttr, h1]
      refine ⟨i + 1, by dsimp only; omega, by dsimp only; omega, ?_⟩
      obtain ⟨e1, e2⟩ := hskip (by rw [hW]; exact fun x => h1' x.1)
      dsimp only
      rw [e1, e2]
      simp -failIfUnchanged (disch := first | omega | (simp <;> omega) | fail) only [go_sem, simprocAttr]
      try simp
  · have e : i = b.say.length := by omega
    subst e
    simp -failIfUnchanged (disch := first | omega | (simp <;> omega) | fail) only [go_sem, simprocAttr]
    simp [wids, rig]

/-- The chance's two numbers. -/
def chcA (D : Nat) (ws : List Nat) (r : Nat) : Nat := ((caseN D ws).drop r).sum / Nat.gcd ((caseN D ws).drop r).sum (D ^ ws.length)
def chcB (D : Nat) (ws : List Nat) (r : Nat) : Nat := D ^ ws.length / Nat.gcd ((caseN D ws).drop r).sum (D ^ ws.length)
theorem chc_eq (D : Nat) (ws : List Nat) (r : Nat) : chcN D ws r = ⟨(chcA D ws r : Nat), (chcB D ws r : Nat)⟩ := rfl
def smallB (D : Nat) (ws : List Nat) (r h : Nat) : Bool := decide (100 * chcA D ws r ≤ h * chcB D ws r)
theorem chc_le {D : Nat} {ws : List Nat} {r : Nat} (hw : ∀ w ∈ ws, w ≤ D) : chcA D ws r ≤ chcB D ws r := by
  unfold chcA chcB
  apply Nat.div_le_div_right
  rw [← caseN_sum D ws hw]
  exact drop_sum _ _
theorem chcB_le (D : Nat) (ws : List Nat) (r : Nat) : chcB D ws r ≤ D ^ ws.length := Nat.div_le_self _ _

theorem wids_le {b : Bk} (hv : BV b) (d : Int) : ∀ w ∈ wids b d, w ≤ dN b := fun w hw => (widK_le hv d _ (Nat.le_refl _) w hw).2
theorem wids_6 {b : Bk} (hv : BV b) (d : Int) : (wids b d).length ≤ 6 := Nat.le_trans (widK_len b d _) (cntK_6 hv d (Nat.le_refl _))

theorem c72b {D : Nat} {ws : List Nat} (hD : 1 ≤ D) (hD2 : D ≤ 12) (hw : ∀ w ∈ ws, w ≤ D) (hl : ws.length ≤ 12) {r : Nat} (hr : r ≤ ws.length) : Ctr Try.prog 72 [GU (caseN D ws) (D ^ ws.length), .int r] (PR (chcN D ws r)) := by
  obtain ⟨h1, h2⟩ := case_bd hD2 hw hl
  exact c72 (caseN D ws) (D ^ ws.length) r (by rw [caseN_len]; omega) (Nat.pow_pos (by omega)) (by omega) (by omega) (by rw [caseN_len]; omega)

theorem c81b {D : Nat} {ws : List Nat} (hD2 : D ≤ 12) (hw : ∀ w ∈ ws, w ≤ D) (hl : ws.length ≤ 12) {r h : Nat} (hh : h ≤ 99) : Ctr Try.prog 81 [PR (chcN D ws r), .int h] (.bool (smallB D ws r h)) :=
  c81 (chcA D ws r) (chcB D ws r) h (chc_le hw) (by have := pow12 hD2 hl; have := chcB_le D ws r; omega) hh

def chaR (b : Bk) (d : Int) : AV := .tup [PR (if dE b d = 0 then chcN (dN b) (wids b d) (rig b d) else ⟨0, 0⟩), .int (dE b d)]

theorem c26 (b : Bk) (hn : b.say.length < 4294967296) (d : Int) : Ctr Try.prog 26 [DB b, .int d] (chaR b d) := by
  refine ctr_of_wp hmix Try.func26 m26 rfl ?_
  unfold v26 chaR
  simp -failIfUnchanged (disch := first | omega | (simp <;> omega) | fail) only [go_sem, simprocAttr]
  refine wcall (c67 b d) ?_
  simp -failIfUnchanged (disch := first | omega | (simp <;> omega) | fail) only [go_sem, simprocAttr]
  refine wcall (c66 b _ hn) ?_
  unfold opnR
  by_cases he : dE b d = 0
  · obtain ⟨hv, hi⟩ := ask_0 he
    obtain ⟨hD1, hD2, hD3⟩ := dN_bd hv
    simp only [he, if_true]
    have h72 := c72b hD1 hD2 (wids_le hv d) (by have := wids_6 hv d; omega) (rigK_le b d b.say.length)
    simp -failIfUnchanged (disch := first | omega | (simp <;> omega) | fail) only [go_sem, simprocAttr]
    refine wcall (c71 b hv hn d) ?_
    simp -failIfUnchanged (disch := first | omega | (simp <;> omega) | fail) only [go_sem, simprocAttr]
    refine wcall h72 ?_
    simp -failIfUnchanged (disch := first | omega | (simp <;> omega) | fail) only [go_sem, simprocAttr]
    try simp
    exact ⟨rfl, rfl⟩
  · have hd1 : decide (¬ dE b d = 0) = true := decide_eq_true he
    simp -failIfUnchanged (disch := first | omega | (simp <;> omega) | fail) only [go_sem, simprocAttr, hd1]
    simp [he]

/-- What is asked of Shows. -/
abbrev hE (b : Bk) (d h : Int) : Int := askE b (within d 0 (w64 (b.dow - 1)) && within h 1 99)
def shwR (b : Bk) (d h : Int) : AV := .tup [.bool (if hE b d h = 0 then smallB (dN b) (wids b d) (rig b d) h.toNat else false), .int (hE b d h)]

theorem c42 (b : Bk) (hn : b.say.length < 4294967296) (d h : Int) : Ctr Try.prog 42 [DB b, .int d, .int h] (shwR b d h) := by
  refine ctr_of_wp hmix Try.func42 m42 rfl ?_
  unfold v42 shwR hE
  simp -failIfUnchanged (disch := first | omega | (simp <;> omega) | fail) only [go_sem, simprocAttr]
  refine wcall (c67 b d) ?_
  cases h1 : within d 0 (w64 (b.dow - 1)) with
  | false =>
    have he : askE b false ≠ 0 := by unfold askE; cases checkB b <;> simp
    have hd1 : decide (¬ askE b false = 0) = true := decide_eq_true he
    simp -failIfUnchanged (disch := first | omega | (simp <;> omega) | fail) only [go_sem, simprocAttr]
    refine wcall (c66 b _ hn) ?_
    unfold opnR
    simp -failIfUnchanged (disch := first | omega | (simp <;> omega) | fail) only [go_sem, simprocAttr, hd1]
    simp [he]
  | true =>
    simp -failIfUnchanged (disch := first | omega | (simp <;> omega) | fail) only [go_sem, simprocAttr]
    refine wcall (c80 _ _ _) ?_
    simp -failIfUnchanged (disch := first | omega | (simp <;> omega) | fail) only [go_sem, simprocAttr]
    refine wcall (c66 b _ hn) ?_
    unfold opnR
    by_cases he : askE b (within h 1 99) = 0
    · obtain ⟨hv, hi⟩ := ask_0 he
      rw [within_iff] at hi
      obtain ⟨q, rfl⟩ : ∃ q : Nat, h = q := ⟨h.toNat, by omega⟩
      obtain ⟨hD1, hD2, hD3⟩ := dN_bd hv
      have hcb : checkB b = true := by
        cases hc : checkB b with
        | true => rfl
        | false => simp [askE, hc] at he
      have h26 := c26 b hn d
      have hdE : dE b d = 0 := by unfold dE; rw [h1]; simp [askE, hcb]
      unfold chaR at h26
      rw [hdE, if_pos rfl] at h26
      have h81 := c81b (r := rig b d) hD2 (wids_le hv d) (by have := wids_6 hv d; omega) (h := q) (by omega)
      have hd1 : decide (¬ askE b (within (q : Int) 1 99) = 0) = false := decide_eq_false (fun x => x he)
      simp -failIfUnchanged (disch := first | omega | (simp <;> omega) | fail) only [go_sem, simprocAttr, hd1]
      refine wcall h26 ?_
      simp -failIfUnchanged (disch := first | omega | (simp <;> omega) | fail) only [go_sem, simprocAttr]
      refine wcall h81 ?_
      simp -failIfUnchanged (disch := first | omega | (simp <;> omega) | fail) only [go_sem, simprocAttr]
      simp [he]
    · have hd1 : decide (¬ askE b (within h 1 99) = 0) = true := decide_eq_true he
      simp -failIfUnchanged (disch := first | omega | (simp <;> omega) | fail) only [go_sem, simprocAttr, hd1]
      simp [he]

/-- The first number of which something is so. -/
def fst (p : Nat → Bool) (n : Nat) : Option Nat := (List.range n).find? p

theorem fst_hit {p : Nat → Bool} {n i : Nat} (hi : i < n) (hpre : ∀ j, j < i → p j = false) (h : p i = true) : fst p n = some i := by
  unfold fst
  rw [List.find?_eq_some_iff_append]
  refine ⟨h, List.range i, (List.range (n - i)).tail.map (i + ·), ?_, fun x hx => ?_⟩
  · apply List.ext_getElem
    · simp; omega
    · intro j h1 h2
      simp only [List.length_range] at h1
      rcases Nat.lt_trichotomy j i with h3 | h3 | h3
      · rw [List.getElem_append_left (by simpa using h3)]
        simp
      · subst h3
        rw [List.getElem_append_right (by simp)]
        simp
      · rw [List.getElem_append_right (by simp; omega), List.getElem_cons]
        rw [dif_neg (by simp; omega)]
        simp
        omega
  · have := hpre x (List.mem_range.1 hx)
    simp [this]

theorem fst_none {p : Nat → Bool} {n : Nat} (h : ∀ j, j < n → p j = false) : fst p n = none := by
  unfold fst
  rw [List.find?_eq_none]
  intro x hx
  simp [h x (List.mem_range.1 hx)]

def powL (D : Nat) (ws : List Nat) : Nat := D ^ ws.length
/-- What is asked of More. -/
abbrev mE (b : Bk) (d w h : Int) : Int := askE b (within d 0 (w64 (b.dow - 1)) && (within h 1 99 && within w 1 b.depth))
/-- With so many further sayings it is shown. -/
def morP (b : Bk) (d : Int) (w h : Nat) (k : Nat) : Bool := smallB (dN b) (wids b d ++ List.replicate k w) (rig b d + k) h
def morR (b : Bk) (d w h : Int) : AV := .tup (if mE b d w h = 0 then (match fst (morP b d w.toNat h.toNat) 7 with | some k => [.int k, .int 0] | none => [.int 0, .int 2]) else [.int 0, .int (mE b d w h)])

theorem c41 (b : Bk) (hn : b.say.length < 4294967296) (d w h : Int) : Ctr Try.prog 41 [DB b, .int d, .int w, .int h] (morR b d w h) := by
  refine ctr_of_wp hmix Try.func41 m41 rfl ?_
  unfold v41 morR mE
  simp -failIfUnchanged (disch := first | omega | (simp <;> omega) | fail) only [go_sem, simprocAttr]
  refine wcall (c67 b d) ?_
  have hee : askE b false ≠ 0 := by unfold askE; cases checkB b <;> simp
  have hd0 : decide (¬ askE b false = 0) = true := decide_eq_true hee
  cases h1 : within d 0 (w64 (b.dow - 1)) with
  | false =>
    simp -failIfUnchanged (disch := first | omega | (simp <;> omega) | fail) only [go_sem, simprocAttr]
    refine wcall (c66 b _ hn) ?_
    unfold opnR
    simp -failIfUnchanged (disch := first | omega | (simp <;> omega) | fail) only [go_sem, simprocAttr, hd0]
    simp [hee]
  | true =>
    simp -failIfUnchanged (disch := first | omega | (simp <;> omega) | fail) only [go_sem, simprocAttr]
    refine wcall (c80 _ _ _) ?_
    cases h2 : within h 1 99 with
    | false =>
      simp -failIfUnchanged (disch := first | omega | (simp <;> omega) | fail) only [go_sem, simprocAttr]
      refine wcall (c66 b _ hn) ?_
      unfold opnR
      simp -failIfUnchanged (disch := first | omega | (simp <;> omega) | fail) only [go_sem, simprocAttr, hd0]
      simp [hee]
    | true =>
      simp -failIfUnchanged (disch := first | omega | (simp <;> omega) | fail) only [go_sem, simprocAttr]
      refine wcall (c80 _ _ _) ?_
      simp -failIfUnchanged (disch := first | omega | (simp <;> omega) | fail) only [go_sem, simprocAttr]
      refine wcall (c66 b _ hn) ?_
      unfold opnR
      by_cases he : askE b (within w 1 b.depth) = 0
      · obtain ⟨hv, hi⟩ := ask_0 he
        have h2' := within_iff.1 h2
        obtain ⟨hD1, hD2, hD3⟩ := dN_bd hv
        have hd1 : decide (¬ askE b (within w 1 b.depth) = 0) = false := decide_eq_false (fun x => x he)
        rw [within_iff] at hi
        obtain ⟨q, rfl⟩ : ∃ q : Nat, h = q := ⟨h.toNat, by omega⟩
        obtain ⟨u, rfl⟩ : ∃ u : Nat, w = u := ⟨w.toNat, by omega⟩
        have hws := wids_le hv d
        have hw6 := wids_6 hv d
        have hrl : rig b d ≤ (wids b d).length := rigK_le b d b.say.length
        have hE2 : askE b (true && (true && within (u : Int) 1 b.depth)) = 0 := by simpa using he
        rw [he]
        simp only [Int.toNat_natCast, if_true]
        simp -failIfUnchanged (disch := first | omega | (simp <;> omega) | fail) only [go_sem, simprocAttr]
        refine wcall (c71 b hv hn d) ?_
        simp -failIfUnchanged (disch := first | omega | (simp <;> omega) | fail) only [go_sem, simprocAttr]
        refine wp_loop' Nat (fun k => ⟨[(2, .int u), (3, .int q), (4, .ptr 4 0), (12, .ptr 12 0), (13, .int (rig b d)), (42, .int k)], [(12, ⟨[IS (nI (caseN (dN b) (wids b d ++ List.replicate k u))), .int ((powL (dN b) (wids b d ++ List.replicate k u) : Nat) : Int)], false⟩), (4, ⟨[.int b.depth, IS b.found, .int b.dow, SL b.say, .int b.pence], false⟩)], [], none⟩) (fun k => k ≤ 7 ∧ ∀ j, j < k → morP b d u q j = false) (fun k => 7 - k) 0 (by simp) (by simp -failIfUnchanged (disch := first | omega | (simp <;> omega) | fail) only [go_sem, simprocAttr]; simp [powL]) ?_
        rintro k ⟨hk, hpre⟩
        simp -failIfUnchanged (disch := first | omega | (simp <;> omega) | fail) only [go_sem, simprocAttr]
        refine wcond_dec (fun hc => ?_) (fun hc => ?_)
        · have hk7 : k < 7 := by omega
          obtain ⟨L, hL⟩ : ∃ L, wids b d ++ List.replicate k u = L := ⟨_, rfl⟩
          have hLw : ∀ w ∈ L, w ≤ dN b := by
            intro w hw
            rw [← hL] at hw
            rcases List.mem_append.1 hw with hw | hw
            · exact hws w hw
            · have := (List.mem_replicate.1 hw).2
              omega
          have hLl : L.length = (wids b d).length + k := by rw [← hL]; simp
          have hLs : L ++ [u] = wids b d ++ List.replicate (k + 1) u := by rw [← hL, List.append_assoc, List.replicate_succ']
          have h72 := c72b (r := rig b d + k) hD1 hD2 hLw (by omega) (by omega)
          change Ctr Try.prog 72 [GU (caseN (dN b) L) (powL (dN b) L), .int ((rig b d + k : Nat) : Int)] _ at h72
          have h81 := c81b (r := rig b d + k) hD2 hLw (by omega) (h := q) (by omega)
          have hmp : morP b d u q k = smallB (dN b) L (rig b d + k) q := by unfold morP; rw [hL]
          obtain ⟨hcs, hcb⟩ := case_bd hD2 hLw (by omega)
          have s1 : ((rig b d : Nat) : Int) + (k : Int) = ((rig b d + k : Nat) : Int) := by omega
          rw [hL]
          simp -failIfUnchanged (disch := first | omega | (simp <;> omega) | fail) only [go_sem, simprocAttr, s1]
          refine wcall h72 ?_
          simp -failIfUnchanged (disch := first | omega | (simp <;> omega) | fail) only [go_sem, simprocAttr]
          refine wcall h81 ?_
          rw [← hmp]
          simp -failIfUnchanged (disch := first | omega | (simp <;> omega) | fail) only [go_sem, simprocAttr]
          refine wcond_bool (fun h3 => ?_) (fun h3 => ?_)
          · rw [fst_hit hk7 hpre h3]
            simp -failIfUnchanged (disch := first | omega | (simp <;> omega) | fail) only [go_sem, simprocAttr]
          · by_cases hk6 : k = 12
            · omega
            have hpw : dN b ^ L.length * dN b = dN b ^ (L ++ [u]).length := by rw [List.length_append, ← Nat.pow_succ]; rfl
            have hp13 : dN b ^ (L ++ [u]).length ≤ 106993205379072 := by
              rw [← hpw]
              calc dN b ^ L.length * dN b ≤ 8916100448256 * 12 := Nat.mul_le_mul hcb hD2
                _ = 106993205379072 := by decide
            have h82 := c82 (caseN (dN b) L) (dN b ^ L.length) u (dN b) (by omega) (by omega) (by rw [hcs, hpw]; omega) (by rw [hpw]; omega) (by rw [caseN_len]; omega)
            rw [hpw, ← caseN_snoc, hLs, hD3] at h82
            change Ctr Try.prog 82 [GU (caseN (dN b) L) (powL (dN b) L), .int u, .int b.depth] (GU (caseN (dN b) (wids b d ++ List.replicate (k + 1) u)) (powL (dN b) (wids b d ++ List.replicate (k + 1) u))) at h82
            simp -failIfUnchanged (disch := first | omega | (simp <;> omega) | fail) only [go_sem, simprocAttr]
            refine wcall h82 ?_
            simp -failIfUnchanged (disch := first | omega | (simp <;> omega) | fail) only [go_sem, simprocAttr]
            refine ⟨k + 1, ⟨by omega, fun j hj => ?_⟩, by dsimp only; omega, ?_⟩
            · rcases Nat.lt_or_ge j k with h4 | h4
              · exact hpre j h4
              · obtain rfl : j = k := by omega
                exact h3
            · simp -failIfUnchanged (disch := first | omega | (simp <;> omega) | fail) only [go_sem, simprocAttr]
              try simp
        · have e : k = 7 := by omega
          subst e
          rw [fst_none hpre]
          simp -failIfUnchanged (disch := first | omega | (simp <;> omega) | fail) only [go_sem, simprocAttr]
      · have hd1 : decide (¬ askE b (within w 1 b.depth) = 0) = true := decide_eq_true he
        simp -failIfUnchanged (disch := first | omega | (simp <;> omega) | fail) only [go_sem, simprocAttr, hd1]
        simp [he]

end Go.Proofs.Ytmcfibpeenhcnaa


/- The example; works. -/
set_option linter.unusedSimpArgs false
set_option linter.unusedVariables false
set_option linter.unnecessarySimpa false
namespace Go.Proofs.Ytmcfibpeenhcnaa
open Go Go.V

theorem c38 (a b : List Int) (ha : a.length < 4294967296) : Ctr Try.prog 38 [IS a, IS b] (.bool (decide (a = b))) := by
  refine ctr_of_wp hmix Try.func38 m38 rfl ?_
  unfold v38
  simp -failIfUnchanged (disch := first | omega | (simp <;> omega) | fail) only [go_sem, simprocAttr]
  refine wcond_dec (fun h => ?_) (fun h => ?_)
  · simp -failIfUnchanged (disch := first | omega | (simp <;> omega) | fail) only [go_sem, simprocAttr]
    have : a ≠ b := fun e => by subst e; simp at h
    simp [this]
  · simp -failIfUnchanged (disch := first | omega | (simp <;> omega) | fail) only [go_sem, simprocAttr]
    refine wp_loop' Nat (fun i => ⟨[(0, IS a), (1, IS b), (5, .int i)], [], [], none⟩) (fun i => i ≤ a.length ∧ a.take i = b.take i) (fun i => a.length - i) 0 (by simp) (by simp -failIfUnchanged (disch := first | omega | (simp <;> omega) | fail) only [go_sem, simprocAttr]; try rfl) ?_
    rintro i ⟨hi, hpre⟩
    simp -failIfUnchanged (disch := first | omega | (simp <;> omega) | fail) only [go_sem, simprocAttr]
    have hl : a.length = b.length := by omega
    refine wcond_dec (fun h => ?_) (fun h => ?_)
    · simp -failIfUnchanged (disch := first | omega | (simp <;> omega) | fail) only [go_sem, simprocAttr]
      have e1 : a[i]? = some a[i] := List.getElem?_eq_getElem (by omega)
      have e2 : b[i]? = some b[i] := List.getElem?_eq_getElem (by omega)
      rw [e1, e2]
      simp -failIfUnchanged (disch := first | omega | (simp <;> omega) | fail) only [go_sem, simprocAttr]
      refine wcond_dec (fun h => ?_) (fun h => ?_)
      · simp -failIfUnchanged (disch := first | omega | (simp <;> omega) | fail) only [go_sem, simprocAttr]
        have : a ≠ b := fun e => by subst e; simp at h
        simp [this]
      · simp -failIfUnchanged (disch := first | omega | (simp <;> omega) | fail) only [go_sem, simprocAttr]
        refine ⟨i + 1, ⟨by omega, ?_⟩, by dsimp only; omega, ?_⟩
        · rw [List.take_add_one, List.take_add_one, hpre, e1, e2]
          simp only [Decidable.not_not] at h
          rw [h]
        · simp -failIfUnchanged (disch := first | omega | (simp <;> omega) | fail) only [go_sem, simprocAttr]
          simp
    · simp -failIfUnchanged (disch := first | omega | (simp <;> omega) | fail) only [go_sem, simprocAttr]
      have e : i = a.length := by omega
      have : a = b := by
        rw [e, List.take_length, hl, List.take_length] at hpre
        exact hpre
      simp [this]

/-- The book of the examples. -/
def bkE : Bk := ⟨6, [3, 0, 5], 2, [⟨0, 0, 2, 3⟩, ⟨0, 1, 1, 1⟩, ⟨0, 2, 1, 2⟩, ⟨1, 0, 3, 3⟩, ⟨1, 1, 1, 6⟩, ⟨1, 2, 4, 6⟩], 10⟩

theorem ag25 : aggOf Try.prog 25 = some true := by kernel_rfl
theorem sz25 : szOf Try.prog 25 = some 5 := by kernel_rfl
attribute [go_sem] ag25 sz25

theorem c65 : Ctr Try.prog 65 [] (DB bkE) := by
  refine ctr_of_wp hmix Try.func65 m65 rfl ?_
  unfold v65 bkE
  simp -failIfUnchanged (disch := first | omega | (simp <;> omega) | fail) only [go_sem, simprocAttr]
  try simp

theorem bkE_n : bkE.say.length < 4294967296 := by decide

theorem x1 : scoR bkE 0 = .tup [.int 2, .int 0] := by kernel_rfl
theorem x2 : ordR bkE = .tup [IS [1, 0], .int 0] := by kernel_rfl
theorem x3 : btwR bkE 0 = .tup [.agg [.int 1, .int 7], .int 0] := by kernel_rfl
theorem x4 : leaR bkE 1 = .tup [.int 1, .int 0] := by kernel_rfl
theorem x5 : chaR bkE 0 = .tup [.agg [.int 5, .int 9], .int 0] := by kernel_rfl
theorem x6 : morR bkE 0 1 10 = .tup [.int 2, .int 0] := by kernel_rfl
theorem x7 : payR bkE = .tup [IS [2, 8], .int 0] := by kernel_rfl

theorem c17 : Ctr Try.prog 17 [] (.bool true) := by
  refine ctr_of_wp hmix Try.func17 m17 rfl ?_
  unfold v17
  have k1 := c23 bkE bkE_n 0
  have k2 := c35 bkE bkE_n
  have k3 := c18 bkE bkE_n 0
  have k4 := c19 bkE bkE_n 1
  have k5 := c26 bkE bkE_n 0
  have k6 := c41 bkE bkE_n 0 1 10
  have k7 := c31 bkE bkE_n
  rw [x1] at k1
  rw [x2] at k2
  rw [x3] at k3
  rw [x4] at k4
  rw [x5] at k5
  rw [x6] at k6
  rw [x7] at k7
  have hb := c65
  generalize bkE = b at *
  simp -failIfUnchanged (disch := first | omega | (simp <;> omega) | fail) only [go_sem, simprocAttr]
  refine wcall hb ?_
  simp -failIfUnchanged (disch := first | omega | (simp <;> omega) | fail) only [go_sem, simprocAttr]
  refine wcall k1 ?_
  simp -failIfUnchanged (disch := first | omega | (simp <;> omega) | fail) only [go_sem, simprocAttr]
  refine wcall k2 ?_
  simp -failIfUnchanged (disch := first | omega | (simp <;> omega) | fail) only [go_sem, simprocAttr]
  refine wcall k3 ?_
  simp -failIfUnchanged (disch := first | omega | (simp <;> omega) | fail) only [go_sem, simprocAttr]
  refine wcall k4 ?_
  simp -failIfUnchanged (disch := first | omega | (simp <;> omega) | fail) only [go_sem, simprocAttr]
  refine wcall k5 ?_
  simp -failIfUnchanged (disch := first | omega | (simp <;> omega) | fail) only [go_sem, simprocAttr]
  refine wcall k6 ?_
  simp -failIfUnchanged (disch := first | omega | (simp <;> omega) | fail) only [go_sem, simprocAttr]
  refine wcall k7 ?_
  simp -failIfUnchanged (disch := first | omega | (simp <;> omega) | fail) only [go_sem, simprocAttr, eq_self]
  refine wcall (c38 [1, 0] [1, 0] (by simp)) ?_
  simp -failIfUnchanged (disch := first | omega | (simp <;> omega) | fail) only [go_sem, simprocAttr, eq_self]
  refine wcall (c38 [2, 8] [2, 8] (by simp)) ?_
  simp -failIfUnchanged (disch := first | omega | (simp <;> omega) | fail) only [go_sem, simprocAttr, eq_self]

end Go.Proofs.Ytmcfibpeenhcnaa


/- Huge, Copy, Same; DowsersHit. -/
set_option linter.unusedSimpArgs false
set_option linter.unusedVariables false
set_option linter.unnecessarySimpa false
namespace Go.Proofs.Ytmcfibpeenhcnaa
open Go Go.V

def hugeB (b : Bk) : Bool := decide ((40 : Int) < b.found.length) || decide ((40 : Int) < b.say.length)
theorem huge_false {b : Bk} (h : hugeB b = false) : b.found.length ≤ 40 ∧ b.say.length ≤ 40 := by
  simp only [hugeB, Bool.or_eq_false_iff, decide_eq_false_iff_not] at h
  omega

theorem c33 (b : Bk) : Ctr Try.prog 33 [DB b] (.bool (hugeB b)) := by
  refine ctr_of_wp hmix Try.func33 m33 rfl ?_
  unfold v33 hugeB
  simp -failIfUnchanged (disch := first | omega | (simp <;> omega) | fail) only [go_sem, simprocAttr]
  refine WGd_bool (fun h => ?_) (fun h => ?_)
  · simp -failIfUnchanged (disch := first | omega | (simp <;> omega) | fail) only [go_sem, simprocAttr, h]
  · simp -failIfUnchanged (disch := first | omega | (simp <;> omega) | fail) only [go_sem, simprocAttr, h]

theorem c22 (b : Bk) (h1 : b.found.length ≤ 1000000) (h2 : b.say.length ≤ 1000000) : Ctr Try.prog 22 [DB b] (DB b) := by
  refine ctr_of_wp hmix Try.func22 m22 rfl ?_
  unfold v22
  simp -failIfUnchanged (disch := first | omega | (simp <;> omega) | fail) only [go_sem, simprocAttr]
  try simp

theorem wbin_sne4 {a b c e : Int} {d : Option Nat} {next : AS → Prop} {σ : AS} : WBin (.sne 4) (.agg [.int a, .int b, .int c, .int e]) (.agg [.int a, .int b, .int c, .int e]) d next σ = next (put d (.bool false) σ) := by
  have : sameCells [.int a, .int b, .int c, .int e] [.int a, .int b, .int c, .int e] = true := by simp [sameCells]
  simp [WBin, BK.cond, BK.val, this, AV.isInt]
attribute [go_sem] wbin_sne4

theorem c39 (b : Bk) (h1 : b.found.length ≤ 1000000) (h2 : b.say.length ≤ 1000000) : Ctr Try.prog 39 [DB b, DB b] (.bool true) := by
  refine ctr_of_wp hmix Try.func39 m39 rfl ?_
  unfold v39
  simp -failIfUnchanged (disch := first | omega | (simp <;> omega) | fail) only [go_sem, simprocAttr, eq_self]
  refine wcall (c38 b.found b.found (by omega)) ?_
  simp -failIfUnchanged (disch := first | omega | (simp <;> omega) | fail) only [go_sem, simprocAttr, eq_self]
  refine wp_loop' Nat (fun i => ⟨[(2, .ptr 2 0), (3, .ptr 3 0), (5, .int i)], [(2, ⟨[.int b.depth, IS b.found, .int b.dow, SL b.say, .int b.pence], false⟩), (3, ⟨[.int b.depth, IS b.found, .int b.dow, SL b.say, .int b.pence], false⟩)], [], none⟩) (fun i => i ≤ b.say.length) (fun i => b.say.length - i) 0 (by simp) (by simp -failIfUnchanged (disch := first | omega | (simp <;> omega) | fail) only [go_sem, simprocAttr]; try simp) ?_
  intro i hi
  have hi : i ≤ b.say.length := hi
  simp -failIfUnchanged (disch := first | omega | (simp <;> omega) | fail) only [go_sem, simprocAttr]
  refine wcond_dec (fun hc => ?_) (fun hc => ?_)
  · simp -failIfUnchanged (disch := first | omega | (simp <;> omega) | fail) only [go_sem, simprocAttr]
    refine ⟨i + 1, by dsimp only; omega, by dsimp only; omega, ?_⟩
    simp -failIfUnchanged (disch := first | omega | (simp <;> omega) | fail) only [go_sem, simprocAttr]
    try simp
  · simp -failIfUnchanged (disch := first | omega | (simp <;> omega) | fail) only [go_sem, simprocAttr]

end Go.Proofs.Ytmcfibpeenhcnaa


/- A row's arguments. -/
set_option linter.unusedSimpArgs false
set_option linter.unusedVariables false
set_option linter.unnecessarySimpa false
namespace Go.Proofs.Ytmcfibpeenhcnaa
open Go Go.V

theorem map_choose {α β γ : Type} {F : α → γ} {G : β → γ} {Q : β → Prop} : ∀ (es : List α), (∀ x ∈ es, ∃ s, F x = G s ∧ Q s) → ∃ l : List β, es.map F = l.map G ∧ l.length = es.length ∧ ∀ s ∈ l, Q s
  | [], _ => ⟨[], rfl, rfl, by simp⟩
  | x :: r, h => by
    obtain ⟨s, h1, h2⟩ := h x (by simp)
    obtain ⟨l, h3, h4, h5⟩ := map_choose r fun y hy => h y (by simp [hy])
    refine ⟨s :: l, by simp [h1, h3], by simp [h4], ?_⟩
    intro t ht
    rcases List.mem_cons.1 ht with rfl | ht
    · exact h2
    · exact h5 t ht

theorem ty_is {cs : List AV} (h : Ty (.sl .int) cs) : ∃ l : List Int, cs = [IS l] ∧ l.length < 9223372036854775808 := by
  rw [Ty] at h
  obtain ⟨es, rfl, h1, h2⟩ := h
  obtain ⟨l, h3, h4, _⟩ := map_choose (F := fun x => if TC.isSt .int then AV.agg x else x[0]?.getD .und) (G := AV.int) (Q := fun _ => True) es (fun x hx => by
    have := h2 x hx
    rw [Ty] at this
    obtain ⟨n, _, rfl⟩ := this
    exact ⟨n, rfl, trivial⟩)
  refine ⟨l, ?_, by omega⟩
  rw [h3]
  rfl

theorem ty_sy {cs : List AV} (h : Ty (.sl (.st [.int, .int, .int, .int])) cs) : ∃ l : List Sy, cs = [SL l] ∧ l.length < 9223372036854775808 := by
  rw [Ty] at h
  obtain ⟨es, rfl, h1, h2⟩ := h
  obtain ⟨l, h3, h4, _⟩ := map_choose (F := fun x => if TC.isSt (.st [.int, .int, .int, .int]) then AV.agg x else x[0]?.getD .und) (G := SY) (Q := fun _ => True) es (fun x hx => by
    have := h2 x hx
    rw [Ty] at this
    simp only [TyL] at this
    obtain ⟨a, r, rfl, ha, b, r2, rfl, hb, c, r3, rfl, hc, d, r4, rfl, hd, rfl⟩ := this
    rw [Ty] at ha hb hc hd
    obtain ⟨n, _, rfl⟩ := ha
    obtain ⟨m, _, rfl⟩ := hb
    obtain ⟨k, _, rfl⟩ := hc
    obtain ⟨j, _, rfl⟩ := hd
    exact ⟨⟨n, m, k, j⟩, rfl, trivial⟩)
  refine ⟨l, ?_, by omega⟩
  rw [h3]
  rfl

abbrev tcB : TC := .st [.int, .sl .int, .int, .sl (.st [.int, .int, .int, .int]), .int]

theorem ty_bk {av : AV} (h : TyV tcB av) : ∃ b : Bk, av = DB b := by
  obtain ⟨cs, rfl, h⟩ := h
  simp only [TyL] at h
  obtain ⟨a, x, rfl, ha, b, y, rfl, hb, c, z, rfl, hc, d, u, rfl, hd, e, v, rfl, he, rfl⟩ := h
  rw [Ty] at ha hc he
  obtain ⟨n, _, rfl⟩ := ha
  obtain ⟨l, rfl, _⟩ := ty_is hb
  obtain ⟨m, _, rfl⟩ := hc
  obtain ⟨k, rfl, _⟩ := ty_sy hd
  obtain ⟨o, _, rfl⟩ := he
  exact ⟨⟨n, l, m, k, o⟩, rfl⟩

theorem ty_three {av : AV} (h : TyV (.st [.int, .int, .int]) av) : ∃ q f o : Int, av = .agg [.int q, .int f, .int o] := by
  obtain ⟨cs, rfl, h⟩ := h
  simp only [TyL] at h
  obtain ⟨a, x, rfl, ha, b, y, rfl, hb, c, z, rfl, hc, rfl⟩ := h
  rw [Ty] at ha hb hc
  obtain ⟨n, _, rfl⟩ := ha
  obtain ⟨m, _, rfl⟩ := hb
  obtain ⟨k, _, rfl⟩ := hc
  exact ⟨n, m, k, rfl⟩

theorem laidOutP : laidOutB Try.prog = true := by kernel_rfl

end Go.Proofs.Ytmcfibpeenhcnaa


/- Plain law: ranks; picking the greatest. -/
set_option linter.unusedSimpArgs false
set_option linter.unusedVariables false
set_option linter.unnecessarySimpa false
namespace Go.Proofs.Ytmcfibpeenhcnaa
open Go Go.V

/-- How many of the first k come before one. -/
def rankK (r : Nat → Int) (d : Nat) : Nat → Nat
  | 0 => 0
  | k + 1 => rankK r d k + if bfr r k d then 1 else 0
theorem rankK_eq (r : Nat → Int) (d : Nat) : ∀ k, rankK r d k = (List.range k).countP fun o => decide (bfr r o d)
  | 0 => rfl
  | k + 1 => by
    rw [rankK, rankK_eq r d k, List.range_succ, List.countP_append]
    congr 1
    by_cases h : bfr r k d <;> simp [h]
theorem rankK_le (r : Nat → Int) (d : Nat) : ∀ k, rankK r d k ≤ k
  | 0 => Nat.le_refl _
  | k + 1 => by have := rankK_le r d k; rw [rankK]; split <;> omega

theorem rank_srt (r : Nat → Int) (n : Nat) {a : Nat} (ha : a < n) : rankK r (nth (srtN r n) a) n = a := by
  rw [rankK_eq, ← (srtN_perm r n).countP_eq]
  have hl := srtN_len r n
  have hsplit : srtN r n = (srtN r n).take a ++ (srtN r n).drop a := (List.take_append_drop _ _).symm
  obtain ⟨d, hd⟩ : ∃ d, nth (srtN r n) a = d := ⟨_, rfl⟩
  rw [hd, hsplit, List.countP_append]
  have h1 : ((srtN r n).take a).countP (fun o => decide (bfr r o d)) = ((srtN r n).take a).length := by
    rw [List.countP_eq_length]
    intro o ho
    obtain ⟨c, hc, e⟩ := List.getElem_of_mem ho
    rw [List.length_take, hl] at hc
    rw [List.getElem_take] at e
    have e2 : nth (srtN r n) c = o := by
      unfold nth
      rw [List.getElem?_eq_getElem (by omega), e]
      rfl
    have := srtN_ord r n c a (by omega) ha
    rw [e2, hd] at this
    exact decide_eq_true this
  have h2 : ((srtN r n).drop a).countP (fun o => decide (bfr r o d)) = 0 := by
    rw [List.countP_eq_zero]
    intro o ho
    obtain ⟨c, hc, e⟩ := List.getElem_of_mem ho
    rw [List.length_drop, hl] at hc
    rw [List.getElem_drop] at e
    have e2 : nth (srtN r n) (a + c) = o := by
      unfold nth
      rw [List.getElem?_eq_getElem (by omega), e]
      rfl
    simp only [decide_eq_true_eq]
    intro h
    rw [← e2, ← hd] at h
    by_cases e3 : c = 0
    · subst e3; exact bfr_irrefl h
    · exact bfr_irrefl (bfr_trans h (srtN_ord r n a (a + c) (by omega) (by omega)))
  rw [h1, h2, List.length_take, hl]
  omega

/-- The places of the first k. -/
def plcK (r : Nat → Int) (n k : Nat) : List Nat := (List.range n).map fun a => if nth (srtN r n) a < k then nth (srtN r n) a else 0
theorem plcK_len (r : Nat → Int) (n k : Nat) : (plcK r n k).length = n := by simp [plcK]
theorem plcK_0 (r : Nat → Int) (n : Nat) : nI (plcK r n 0) = List.replicate n 0 := by
  apply List.ext_getElem (by simp [plcK])
  intro i h1 h2
  simp [plcK]
theorem plcK_n (r : Nat → Int) (n : Nat) : plcK r n n = srtN r n := by
  apply List.ext_getElem (by simp [plcK, srtN_len])
  intro i h1 h2
  rw [plcK_len] at h1
  simp only [plcK, List.getElem_map, List.getElem_range]
  rw [if_pos (srtN_nth r n h1)]
  simp [nth, srtN_len, h1]
theorem plcK_set (r : Nat → Int) (n k : Nat) (hk : k < n) : (plcK r n k).set (rankK r k n) k = plcK r n (k + 1) := by
  obtain ⟨a, ha, e⟩ := srtN_ex r n hk
  have hr := rank_srt r n ha
  rw [e] at hr
  rw [hr]
  apply List.ext_getElem (by simp [plcK])
  intro i h1 h2
  rw [plcK_len] at h2
  rw [List.getElem_set]
  simp only [plcK, List.getElem_map, List.getElem_range]
  by_cases e1 : a = i
  · subst e1
    rw [if_pos rfl, e, if_pos (by omega)]
  · rw [if_neg e1]
    have hne : nth (srtN r n) i ≠ k := fun h => e1 (srtN_inj r n ha h2 (by rw [e, h]))
    by_cases e2 : nth (srtN r n) i < k
    · rw [if_pos e2, if_pos (by omega)]
    · rw [if_neg e2, if_neg (by omega)]
theorem rank_lt (r : Nat → Int) (n : Nat) {k : Nat} (hk : k < n) : rankK r k n < n := by
  obtain ⟨a, ha, e⟩ := srtN_ex r n hk
  have hr := rank_srt r n ha
  rw [e] at hr
  omega

/-- The first one with the most, above 0, of those that are not yet there. -/
def pk1 (r : Nat → Int) (got : List Nat) (x : Int × Int) (i : Nat) : Int × Int := if i ∉ got ∧ x.2 < r i then (((i : Nat) : Int), r i) else x
def pkF (r : Nat → Int) (got : List Nat) : Nat → Int × Int
  | 0 => (-1, 0)
  | k + 1 => pk1 r got (pkF r got k) k

theorem pkF_spec (r : Nat → Int) (got : List Nat) : ∀ k, (pkF r got k = (-1, 0) ∧ ∀ i, i < k → i ∉ got → r i ≤ 0) ∨ ∃ b : Nat, pkF r got k = (((b : Nat) : Int), r b) ∧ b < k ∧ b ∉ got ∧ 0 < r b ∧ ∀ i, i < k → i ∉ got → i ≠ b → bfr r b i
  | 0 => .inl ⟨rfl, fun i hi => by omega⟩
  | k + 1 => by
    have ih := pkF_spec r got k
    rw [pkF]
    unfold pk1
    rcases ih with ⟨e, ih⟩ | ⟨b, e, hb, hbg, hb0, ih⟩
    · rw [e]
      by_cases hk : k ∉ got ∧ (0 : Int) < r k
      · rw [if_pos hk]
        refine .inr ⟨k, rfl, by omega, hk.1, hk.2, fun i hi hg hne => ?_⟩
        have := ih i (by omega) hg
        exact .inl (by omega)
      · rw [if_neg hk]
        refine .inl ⟨rfl, fun i hi hg => ?_⟩
        rcases Nat.lt_or_ge i k with h | h
        · exact ih i h hg
        · obtain rfl : i = k := by omega
          have : ¬ (0 : Int) < r i := fun x => hk ⟨hg, x⟩
          omega
    · rw [e]
      by_cases hc : k ∉ got ∧ r b < r k
      · rw [if_pos hc]
        refine .inr ⟨k, rfl, by omega, hc.1, by omega, fun i hi hg hne => ?_⟩
        have hkb : bfr r k b := by unfold bfr; omega
        by_cases e2 : i = b
        · subst e2; exact hkb
        · exact bfr_trans hkb (ih i (by omega) hg e2)
      · rw [if_neg hc]
        refine .inr ⟨b, rfl, by omega, hbg, hb0, fun i hi hg hne => ?_⟩
        rcases Nat.lt_or_ge i k with h | h
        · exact ih i h hg hne
        · obtain rfl : i = k := by omega
          have : ¬ r b < r i := fun h => hc ⟨hg, h⟩
          unfold bfr; omega

theorem pk_srt (r : Nat → Int) (n k : Nat) (hk : k < n) (h0 : 0 < r (nth (srtN r n) k)) : pkF r ((srtN r n).take k) n = (((nth (srtN r n) k : Nat) : Int), r (nth (srtN r n) k)) := by
  have hn := srtN_nth r n hk
  have hno : nth (srtN r n) k ∉ (srtN r n).take k := by rw [take_mem r n k (by omega) hk]; omega
  rcases pkF_spec r ((srtN r n).take k) n with ⟨_, h⟩ | ⟨b, e, hb, hbg, _, h⟩
  · have := h _ hn hno
    omega
  · rw [e]
    by_cases h1 : nth (srtN r n) k = b
    · rw [h1]
    · have h2 := h _ hn hno h1
      obtain ⟨c, hc, rfl⟩ := srtN_ex r n hb
      rw [take_mem r n k (by omega) hc] at hbg
      rcases Nat.lt_or_ge k c with h3 | h3
      · exact absurd (bfr_trans h2 (srtN_ord r n k c h3 hc)) bfr_irrefl
      · obtain rfl : k = c := by omega
        exact absurd rfl h1

theorem srt_sum (r : Nat → Int) (n : Nat) : sumI ((srtN r n).map r) = sumI ((List.range n).map r) := by
  have key : ∀ {l k : List Nat}, l.Perm k → sumI (l.map r) = sumI (k.map r) := by
    intro l k h
    induction h with
    | nil => rfl
    | cons x _ ih => simp only [List.map_cons, sumI_cons, ih]
    | swap x y l => simp only [List.map_cons, sumI_cons]; omega
    | trans _ _ h1 h2 => exact h1.trans h2
  exact key (srtN_perm r n)

/-- Those that get one more have something left. -/
theorem cut_pos {s : List Int} {f : Int} (h0 : 0 < allS s) {k : Nat} (hk : (k : Int) < leftI s f) : 0 < restI s f (nth (srtN (restI s f) s.length) k) := by
  have hlb := left_bd s f h0
  have hkn : k < s.length := by omega
  apply Classical.byContradiction
  intro hno
  have hb := fun i => rest_bd s f h0 i
  have h1 := parts s f h0
  rw [← srt_sum] at h1
  have hl := srtN_len (restI s f) s.length
  have h2 : sumI ((srtN (restI s f) s.length).map (restI s f)) ≤ sumI ((List.range s.length).map fun a => if a < k then allS s - 1 else 0) := by
    refine sumI_le (by simp [hl]) fun i hi => ?_
    rw [List.length_map, hl] at hi
    rw [at0_rmap _ hi]
    have e : at0 ((srtN (restI s f) s.length).map (restI s f)) i = restI s f (nth (srtN (restI s f) s.length) i) := by simp [at0, nth, hl, hi]
    rw [e]
    have hbi := hb (nth (srtN (restI s f) s.length) i)
    split
    · omega
    · have hz : restI s f (nth (srtN (restI s f) s.length) k) = 0 := by have := hb (nth (srtN (restI s f) s.length) k); omega
      rename_i hik
      by_cases e2 : i = k
      · subst e2; omega
      · have := srtN_ord (restI s f) s.length k i (by omega) hi
        unfold bfr at this
        omega
  have h3 : ∀ n, sumI ((List.range n).map fun a => if a < k then allS s - 1 else 0) ≤ k * (allS s - 1) := by
    intro n
    have h4 : ∀ n, sumI ((List.range n).map fun a => if a < k then allS s - 1 else 0) = (min n k : Nat) * (allS s - 1) := by
      intro n
      induction n with
      | zero => simp [sumI_nil]
      | succ n ih =>
        rw [sumI_rmap_succ, ih]
        by_cases e : n < k
        · rw [if_pos e, show min (n + 1) k = min n k + 1 by omega, Int.natCast_succ, Int.add_mul]
          omega
        · rw [if_neg e, show min (n + 1) k = min n k by omega]
          omega
    rw [h4]
    have : ((min n k : Nat) : Int) ≤ k := by omega
    exact Int.mul_le_mul_of_nonneg_right this (by omega)
  have h4 := h3 s.length
  have h5 : (k : Int) * (allS s - 1) ≤ k * allS s := Int.mul_le_mul_of_nonneg_left (by omega) (by omega)
  have h6 : allS s * ((k : Int) + 1) ≤ allS s * leftI s f := Int.mul_le_mul_of_nonneg_left (by omega) (by omega)
  rw [Int.mul_add, Int.mul_one, Int.mul_comm] at h6
  omega

end Go.Proofs.Ytmcfibpeenhcnaa

