/- Merged by program: T35, T36, T37. -/
import Derived.Test.YtmcfibpeenhcnaaM5
/- DowsersPurse. -/
set_option linter.unusedSimpArgs false
set_option linter.unusedVariables false
set_option linter.unnecessarySimpa false
namespace Go.Proofs.Ytmcfibpeenhcnaa
open Go Go.V

theorem rem_one {s : List Int} {f : Int} (h0 : 0 < allS s) {i : Nat} (hi : i < s.length) : at0 (remL s f) i = flrI s f i ∨ (at0 (remL s f) i = flrI s f i + 1 ∧ 0 < restI s f i) := by
  rw [remL_at s f hi, if_neg (by omega)]
  by_cases h : i ∈ (cutL s f).take (leftI s f).toNat
  · rw [if_pos h]
    refine .inr ⟨rfl, ?_⟩
    have hlb := left_bd s f h0
    obtain ⟨a, ha, e⟩ := srtN_ex (restI s f) s.length hi
    have h2 : a < (leftI s f).toNat := by
      rw [← take_mem (restI s f) s.length _ (by omega) ha, e]
      exact h
    have := cut_pos (s := s) (f := f) h0 (k := a) (by omega)
    rwa [e] at this
  · rw [if_neg h]
    exact .inl (by omega)

theorem rem_mono {s : List Int} {f : Int} (hf : 0 ≤ f) (h0 : 0 < allS s) {i j : Nat} (hi : i < s.length) (hj : j < s.length) (h : at0 s j ≤ at0 s i) (hz : at0 s i = at0 s j → restI s f j = 0) : at0 (remL s f) j ≤ at0 (remL s f) i := by
  have hfl : flrI s f j ≤ flrI s f i := Int.ediv_le_ediv h0 (Int.mul_le_mul_of_nonneg_left h hf)
  rcases Int.lt_or_eq_of_le hfl with h1 | h1
  · have a := rem_one (f := f) h0 hi
    have b := rem_one (f := f) h0 hj
    omega
  · have hz0 : ¬ allS s = 0 := by omega
    rw [remL_at s f hi, remL_at s f hj]
    simp only [hz0, if_false]
    by_cases hm : j ∈ (cutL s f).take (leftI s f).toNat
    · rw [if_pos hm]
      have hlb := left_bd s f h0
      have hpos : 0 < restI s f j := by
        obtain ⟨a, ha, e⟩ := srtN_ex (restI s f) s.length hj
        have h2 : a < (leftI s f).toNat := by
          rw [← take_mem (restI s f) s.length _ (by omega) ha, e]
          exact hm
        have := cut_pos (s := s) (f := f) h0 (k := a) (by omega)
        rwa [e] at this
      have hne : at0 s i ≠ at0 s j := fun e => by have := hz e; omega
      have hlt : restI s f j < restI s f i := by
        have e1 := Int.mul_ediv_add_emod (f * at0 s i) (allS s)
        have e2 := Int.mul_ediv_add_emod (f * at0 s j) (allS s)
        have hfp : 0 < f := by
          apply Classical.byContradiction
          intro hno
          have : f = 0 := by omega
          unfold restI at hpos
          rw [this, Int.zero_mul] at hpos
          simp at hpos
        have e3 : f * at0 s j < f * at0 s i := Int.mul_lt_mul_of_pos_left (by omega) hfp
        unfold flrI at h1
        rw [h1] at e2
        unfold restI
        omega
      have := take_bfr (restI s f) s.length (leftI s f).toNat (by omega) hi hj (.inl hlt) hm
      unfold cutL
      rw [if_pos this]
      omega
    · rw [if_neg hm]
      split <;> omega

theorem rem_bds {s : List Int} {f : Int} (hs : ∀ i, i < s.length → 0 ≤ at0 s i) (hf : 0 ≤ f) (h0 : 0 ≤ allS s) {i : Nat} (hi : i < s.length) : 0 ≤ at0 (remL s f) i ∧ at0 (remL s f) i ≤ f := by
  by_cases h : allS s = 0
  · rw [remL_at s f hi, if_pos h]
    omega
  · have h0' : 0 < allS s := by omega
    have hnn : ∀ j, j < s.length → 0 ≤ at0 (remL s f) j := fun j hj => by
      have a := rem_one (f := f) h0' hj
      have b := flr_bd hs hf h0' hj
      omega
    refine ⟨hnn i hi, ?_⟩
    have h1 := share_le (s := remL s f) (fun j hj => hnn j (by rwa [remL_len] at hj)) (i := i) (by rwa [remL_len])
    have h2 := remL_sum s f h0'
    unfold allS at h1
    omega

theorem c25 (b : Bk) : Ctr Try.prog 25 [DB b] (.bool (!hugeB b && checkB b)) := by
  refine ctr_of_wp hmix Try.func25 m25 rfl ?_
  unfold v25
  simp -failIfUnchanged (disch := first | omega | (simp <;> omega) | fail) only [go_sem, simprocAttr]
  refine wcall (c33 b) ?_
  cases hh : hugeB b with
  | true => simp -failIfUnchanged (disch := first | omega | (simp <;> omega) | fail) only [go_sem, simprocAttr]
  | false =>
    obtain ⟨h1, h2⟩ := huge_false hh
    simp -failIfUnchanged (disch := first | omega | (simp <;> omega) | fail) only [go_sem, simprocAttr]
    refine wcall (c53 b (by omega)) ?_
    unfold errB
    cases checkB b with
    | true => simp -failIfUnchanged (disch := first | omega | (simp <;> omega) | fail) only [go_sem, simprocAttr]; try simp
    | false => simp -failIfUnchanged (disch := first | omega | (simp <;> omega) | fail) only [go_sem, simprocAttr]; try simp

/-- The sum of the first k. -/
theorem sum_take_succ {l : List Int} {k : Nat} (h : k < l.length) : sumI (l.take (k + 1)) = sumI (l.take k) + at0 l k := by
  rw [List.take_add_one, sumI_app, List.getElem?_eq_getElem h]
  simp [at0, h, sumI_cons, sumI_nil]
theorem sum_take_bd {l : List Int} {B : Int} (h : ∀ i, i < l.length → 0 ≤ at0 l i ∧ at0 l i ≤ B) : ∀ k, k ≤ l.length → 0 ≤ sumI (l.take k) ∧ sumI (l.take k) ≤ B * k
  | 0, _ => by simp [sumI_nil]
  | k + 1, hk => by
    have h1 := sum_take_bd h k (by omega)
    have h2 := h k (by omega)
    have e : B * ((k + 1 : Nat) : Int) = B * k + B := by rw [Int.natCast_succ, Int.mul_add, Int.mul_one]
    rw [sum_take_succ (by omega)]
    omega

theorem c5 (b : Bk) (one other : Int) : Ctr Try.prog 5 [DB b, .int one, .int other] (.bool true) := by
  refine ctr_of_wp hmix Try.func5 m5 rfl ?_
  unfold v5
  simp -failIfUnchanged (disch := first | omega | (simp <;> omega) | fail) only [go_sem, simprocAttr]
  refine wcall (c25 b) ?_
  cases hr : (!hugeB b && checkB b) with
  | false =>
    simp -failIfUnchanged (disch := first | omega | (simp <;> omega) | fail) only [go_sem, simprocAttr]
    refine wcall c17 ?_
    simp -failIfUnchanged (disch := first | omega | (simp <;> omega) | fail) only [go_sem, simprocAttr]
  | true =>
    simp only [Bool.and_eq_true, Bool.not_eq_true'] at hr
    obtain ⟨h1, h2⟩ := huge_false hr.1
    have hcb := hr.2
    have hv := bv_of hcb
    have hdw := hv.dw
    have hpn := hv.pn
    have hn : b.say.length < 4294967296 := by omega
    simp -failIfUnchanged (disch := first | omega | (simp <;> omega) | fail) only [go_sem, simprocAttr]
    refine wcall (c16 b one) ?_
    cases ho : within one 0 (w64 (b.dow - 1)) with
    | false =>
      simp -failIfUnchanged (disch := first | omega | (simp <;> omega) | fail) only [go_sem, simprocAttr]
      refine wcall c17 ?_
      simp -failIfUnchanged (disch := first | omega | (simp <;> omega) | fail) only [go_sem, simprocAttr]
    | true =>
      simp -failIfUnchanged (disch := first | omega | (simp <;> omega) | fail) only [go_sem, simprocAttr]
      refine wcall (c16 b other) ?_
      cases ho2 : within other 0 (w64 (b.dow - 1)) with
      | false =>
        simp -failIfUnchanged (disch := first | omega | (simp <;> omega) | fail) only [go_sem, simprocAttr]
        refine wcall c17 ?_
        simp -failIfUnchanged (disch := first | omega | (simp <;> omega) | fail) only [go_sem, simprocAttr]
      | true =>
        have d1 := dow_in hv ho
        have d2 := dow_in hv ho2
        obtain ⟨u, rfl⟩ : ∃ u : Nat, one = u := ⟨one.toNat, by omega⟩
        obtain ⟨z, rfl⟩ : ∃ z : Nat, other = z := ⟨other.toNat, by omega⟩
        obtain ⟨n, hdn⟩ : ∃ n : Nat, b.dow = n := ⟨b.dow.toNat, by omega⟩
        have hdn2 : b.dow.toNat = n := by omega
        have k1 := c31 b hn
        unfold payR errB at k1
        rw [hcb] at k1
        simp only [if_true] at k1
        have hpl := posL_len b
        rw [hdn2] at hpl
        have hll := remL_len (posL b) b.pence
        rw [hpl] at hll
        have hnn := posL_nn b
        have hab := allK_bd hv hn 4
        rw [allK_4 hv] at hab
        have hbd : ∀ i, i < n → 0 ≤ at0 (remL (posL b) b.pence) i ∧ at0 (remL (posL b) b.pence) i ≤ b.pence := fun i hi => rem_bds hnn hpn.1 hab.1 (by omega)
        have h32 : ∀ d : Nat, Ctr Try.prog 32 [DB b, .int d, IS b.found] (.int (sc b d)) := c32f b hv hn
        unfold DB at h32 k1
        rw [hdn] at h32 k1
        have hak : allK b n = allS (posL b) := by rw [← hdn2]; exact allK_dow hv 0
        obtain ⟨l, hl⟩ : ∃ l, remL (posL b) b.pence = l := ⟨_, rfl⟩
        rw [hl] at k1 hll hbd
        simp -failIfUnchanged (disch := first | omega | (simp <;> omega) | fail) only [go_sem, simprocAttr, hdn]
        refine wcall k1 ?_
        have e1 : decide (¬ (l.length : Int) = n) = false := by simp; omega
        simp -failIfUnchanged (disch := first | omega | (simp <;> omega) | fail) only [go_sem, simprocAttr, e1]
        refine wp_loop' Nat (fun i => ⟨[(1, .int u), (2, .int z), (3, .ptr 3 0), (7, IS l), (9, .int (sumI (l.take i))), (10, .int (allK b i)), (11, .int i)], [(3, ⟨[.int b.depth, IS b.found, .int n, SL b.say, .int b.pence], false⟩)], [], none⟩) (fun i => i ≤ n) (fun i => n - i) 0 (by simp) (by simp -failIfUnchanged (disch := first | omega | (simp <;> omega) | fail) only [go_sem, simprocAttr]; simp [allK, sumI_nil]) ?_
        intro i hi
        have hi : i ≤ n := hi
        simp -failIfUnchanged (disch := first | omega | (simp <;> omega) | fail) only [go_sem, simprocAttr]
        refine wcond_dec (fun hc => ?_) (fun hc => ?_)
        · have hlt : i < n := by omega
          have b1 := hbd i hlt
          have b1' : 0 ≤ l[i]?.getD default ∧ l[i]?.getD default ≤ b.pence := b1
          have b2 := sum_take_bd (l := l) (B := b.pence) (fun j hj => hbd j (by omega)) i (by omega)
          have b3 : b.pence * (i : Int) ≤ 999 * 4 := by
            have a : b.pence * (i : Int) ≤ 999 * (i : Int) := Int.mul_le_mul_of_nonneg_right hpn.2 (by omega)
            omega
          have h6 := allK_bd hv hn i
          have h7 := pos_bd hv hn i
          have h8 : pos b i = max 0 (sc b i) := rfl
          rw [h8] at h7
          have e2 : decide (l[i]?.getD default < 0) = false := decide_eq_false (by omega)
          have e3 : decide (b.pence < l[i]?.getD default) = false := decide_eq_false (by omega)
          simp -failIfUnchanged (disch := first | omega | (simp <;> omega) | fail) only [go_sem, simprocAttr, e2, e3]
          refine wcall (h32 i) ?_
          simp -failIfUnchanged (disch := first | omega | (simp <;> omega) | fail) only [go_sem, simprocAttr]
          refine ⟨i + 1, by dsimp only; omega, by dsimp only; omega, ?_⟩
          dsimp only
          rw [allK_succ, h8, sum_take_succ (by omega)]
          simp -failIfUnchanged (disch := first | omega | (simp <;> omega) | fail) only [go_sem, simprocAttr]
          try simp
        · have e : i = n := by omega
          subst e
          have e4 : l.take i = l := List.take_of_length_le (by omega)
          rw [hak, e4]
          simp -failIfUnchanged (disch := first | omega | (simp <;> omega) | fail) only [go_sem, simprocAttr]
          refine wcond_dec (fun h0 => ?_) (fun h0 => ?_)
          · have hs0 : sumI l = 0 := by
              rw [← hl]
              unfold remL
              rw [if_pos h0, sumI_rep]
            simp -failIfUnchanged (disch := first | omega | (simp <;> omega) | fail) only [go_sem, simprocAttr, hs0, eq_self]
            refine wcall c17 ?_
            simp -failIfUnchanged (disch := first | omega | (simp <;> omega) | fail) only [go_sem, simprocAttr]
          · have h0' : 0 < allS (posL b) := by omega
            have hsum : sumI l = b.pence := by rw [← hl]; exact remL_sum _ _ h0'
            have hm := mul_bd hpn (pos_bd hv hn u)
            have h8 : pos b u = max 0 (sc b u) := rfl
            have hpu := posL_at b (i := u) (by omega)
            have hpz := posL_at b (i := z) (by omega)
            have hone := rem_one (f := b.pence) h0' (i := u) (by omega)
            rw [hl] at hone
            have hone' : l[u]?.getD default = flrI (posL b) b.pence u ∨ (l[u]?.getD default = flrI (posL b) b.pence u + 1 ∧ 0 < restI (posL b) b.pence u) := hone
            have hsu : 0 < restI (posL b) b.pence u → 0 < sc b u := by
              intro h
              unfold restI at h
              rw [hpu, h8] at h
              apply Classical.byContradiction
              intro hno
              rw [show max 0 (sc b u) = 0 by omega] at h
              simp at h
            have hmono : sc b z < sc b u → l[z]?.getD default ≤ l[u]?.getD default := by
              intro h
              have := rem_mono (f := b.pence) (s := posL b) hpn.1 h0' (i := u) (j := z) (by omega) (by omega) (by rw [hpu, hpz]; unfold pos; omega) (by
                rw [hpu, hpz]
                intro e
                unfold pos at e
                unfold restI
                rw [hpz]
                unfold pos
                rw [show max 0 (sc b z) = 0 by omega]
                simp)
              rw [hl] at this
              exact this
            have hfe := flr_eq hdn2 (i := u) (by omega)
            have hfb := flr_bd hnn hpn.1 h0' (i := u) (by omega)
            rw [h8] at hm
            simp -failIfUnchanged (disch := first | omega | (simp <;> omega) | fail) only [go_sem, simprocAttr]
            refine wcall (h32 u) ?_
            simp -failIfUnchanged (disch := first | omega | (simp <;> omega) | fail) only [go_sem, simprocAttr]
            refine wcall (h32 z) ?_
            simp -failIfUnchanged (disch := first | omega | (simp <;> omega) | fail) only [go_sem, simprocAttr, tdiv_nn hm.1, hfe, hsum, eq_self]
            refine WGd_bool (fun h4 => ?_) (fun h4 => ?_)
            · have h4' : ¬ sc b u ≤ sc b z := by simpa using h4
              have e5 : decide (l[z]?.getD default ≤ l[u]?.getD default) = true := decide_eq_true (hmono (by omega))
              simp -failIfUnchanged (disch := first | omega | (simp <;> omega) | fail) only [go_sem, simprocAttr, h4, e5]
              refine WGd_bool (fun h5 => ?_) (fun h5 => ?_)
              · have h5' : ¬ l[u]?.getD default = flrI (posL b) b.pence u := by simpa using h5
                have h6 := hone'.resolve_left h5'
                have e6 : decide (l[u]?.getD default = flrI (posL b) b.pence u + 1) = true := decide_eq_true h6.1
                have e7 : decide (0 < sc b u) = true := decide_eq_true (hsu h6.2)
                simp -failIfUnchanged (disch := first | omega | (simp <;> omega) | fail) only [go_sem, simprocAttr, h4, h5, e6, e7]
                refine wcall c17 ?_
                simp -failIfUnchanged (disch := first | omega | (simp <;> omega) | fail) only [go_sem, simprocAttr]
              · simp -failIfUnchanged (disch := first | omega | (simp <;> omega) | fail) only [go_sem, simprocAttr, h4, h5]
                refine wcall c17 ?_
                simp -failIfUnchanged (disch := first | omega | (simp <;> omega) | fail) only [go_sem, simprocAttr]
            · simp -failIfUnchanged (disch := first | omega | (simp <;> omega) | fail) only [go_sem, simprocAttr, h4]
              refine WGd_bool (fun h5 => ?_) (fun h5 => ?_)
              · have h5' : ¬ l[u]?.getD default = flrI (posL b) b.pence u := by simpa using h5
                have h6 := hone'.resolve_left h5'
                have e6 : decide (l[u]?.getD default = flrI (posL b) b.pence u + 1) = true := decide_eq_true h6.1
                have e7 : decide (0 < sc b u) = true := decide_eq_true (hsu h6.2)
                simp -failIfUnchanged (disch := first | omega | (simp <;> omega) | fail) only [go_sem, simprocAttr, h4, h5, e6, e7]
                refine wcall c17 ?_
                simp -failIfUnchanged (disch := first | omega | (simp <;> omega) | fail) only [go_sem, simprocAttr]
              · simp -failIfUnchanged (disch := first | omega | (simp <;> omega) | fail) only [go_sem, simprocAttr, h4, h5]
                refine wcall c17 ?_
                simp -failIfUnchanged (disch := first | omega | (simp <;> omega) | fail) only [go_sem, simprocAttr]

end Go.Proofs.Ytmcfibpeenhcnaa

/- Dug; DowsersGuess. -/
set_option linter.unusedSimpArgs false
set_option linter.unusedVariables false
set_option linter.unnecessarySimpa false
namespace Go.Proofs.Ytmcfibpeenhcnaa
open Go Go.V

theorem flat_ints {l : List Int} : flat (l.map AV.int) = l.map .int := by
  induction l with
  | nil => rfl
  | cons x r ih => simp only [List.map_cons, flat, ih]; rfl
attribute [go_sem] flat_ints

end Go.Proofs.Ytmcfibpeenhcnaa

/- DowsersLess. -/
set_option linter.unusedSimpArgs false
set_option linter.unusedVariables false
set_option linter.unnecessarySimpa false
namespace Go.Proofs.Ytmcfibpeenhcnaa
open Go Go.V

/-- The numbers of all sayings, one behind the other. -/
def flS (l : List Sy) : List Int := l.flatMap fun s => [s.d, s.p, s.lo, s.hi]
theorem flS_cons (x : Sy) (l : List Sy) : flS (x :: l) = x.d :: x.p :: x.lo :: x.hi :: flS l := rfl
theorem flS_len (l : List Sy) : (flS l).length = l.length * 4 := by
  induction l with
  | nil => rfl
  | cons x r ih => rw [flS_cons]; simp only [List.length_cons, ih]; omega
theorem flS_get2 (l : List Sy) (n : Nat) : (flS l)[n * 4 + 2]?.getD default = (l[n]?.getD default).lo := by
  induction l generalizing n with
  | nil => simp [flS]; rfl
  | cons x r ih =>
    cases n with
    | zero => rfl
    | succ n => rw [flS_cons, show (n + 1) * 4 + 2 = n * 4 + 2 + 1 + 1 + 1 + 1 by omega]; simpa using ih n
theorem flS_get3 (l : List Sy) (n : Nat) : (flS l)[n * 4 + 3]?.getD default = (l[n]?.getD default).hi := by
  induction l generalizing n with
  | nil => simp [flS]; rfl
  | cons x r ih =>
    cases n with
    | zero => rfl
    | succ n => rw [flS_cons, show (n + 1) * 4 + 3 = n * 4 + 3 + 1 + 1 + 1 + 1 by omega]; simpa using ih n
theorem flS_set2 (l : List Sy) (n : Nat) (v : Int) : (flS l).set (n * 4 + 2) v = flS (l.set n { (l[n]?.getD default) with lo := v }) := by
  induction l generalizing n with
  | nil => simp [flS]
  | cons x r ih =>
    cases n with
    | zero => rfl
    | succ n => rw [flS_cons, show (n + 1) * 4 + 2 = n * 4 + 2 + 1 + 1 + 1 + 1 by omega]; simp only [List.set_cons_succ, ih, List.getElem?_cons_succ, flS_cons]
theorem flS_set3 (l : List Sy) (n : Nat) (v : Int) : (flS l).set (n * 4 + 3) v = flS (l.set n { (l[n]?.getD default) with hi := v }) := by
  induction l generalizing n with
  | nil => simp [flS]
  | cons x r ih =>
    cases n with
    | zero => rfl
    | succ n => rw [flS_cons, show (n + 1) * 4 + 3 = n * 4 + 3 + 1 + 1 + 1 + 1 by omega]; simp only [List.set_cons_succ, ih, List.getElem?_cons_succ, flS_cons]
theorem flat_sy (l : List Sy) : flat (l.map SY) = (flS l).map .int := by
  induction l with
  | nil => rfl
  | cons x r ih => rw [flS_cons]; simp only [List.map_cons, flat, ih]; rfl
theorem chunks_sy : ∀ (l : List Sy) (cells : List AV) (off : Nat), (cells.drop off) = (flS l).map .int → chunks true 4 cells off l.length = l.map SY
  | [], _, _, _ => rfl
  | x :: r, cells, off, h => by
    rw [List.length_cons, chunks, List.map_cons]
    congr 1
    · unfold chunk
      rw [h, flS_cons]
      rfl
    · refine chunks_sy r cells (off + 4) ?_
      rw [← List.drop_drop, h, flS_cons]
      rfl

/-- A book in which a saying's span is narrower. -/
abbrev narB (b : Bk) (n : Nat) (x : Sy) : Bk := { b with say := b.say.set n x }

theorem nar_syt {b : Bk} {n : Nat} (hl : n < b.say.length) (x : Sy) (i : Nat) : syt (narB b n x) i = if i = n then x else syt b i := by
  show (b.say.set n x)[i]?.getD default = _
  rw [List.getElem?_set]
  by_cases e : n = i
  · subst e
    rw [if_pos rfl, if_pos hl, if_pos rfl]
    rfl
  · rw [if_neg e, if_neg (fun h => e h.symm)]

theorem ptsOf_say {b b' : Bk} (h : b'.depth = b.depth) (x : Sy) (f : List Int) : ptsOf b' x f = ptsOf b x f := by unfold ptsOf; rw [h]

theorem nar_sco {b : Bk} {n : Nat} (hl : n < b.say.length) {x : Sy} (hd : x.d = (syt b n).d) {c : Int} (hp : ptsOf b x b.found = ptsOf b (syt b n) b.found + c) : ∀ k, k ≤ b.say.length → scoK (narB b n x) (syt b n).d b.found k = scoK b (syt b n).d b.found k + if n < k then c else 0
  | 0, _ => by simp [scoK]
  | k + 1, hk => by
    have ih := nar_sco hl hd hp k (by omega)
    simp only [scoK]
    rw [ih, nar_syt hl]
    rw [ptsOf_say (b := b) (b' := narB b n x) rfl]
    by_cases e : k = n
    · subst e
      simp only [if_true, hd]
      rw [if_neg (by omega), if_pos (by omega), hp]
      omega
    · rw [if_neg e]
      by_cases h1 : n < k
      · rw [if_pos h1, if_pos (show n < k + 1 by omega)]; omega
      · rw [if_neg h1, if_neg (show ¬ n < k + 1 by omega)]; omega

theorem hit_nar {x y : Sy} {f : List Int} (hp : y.p = x.p) (h1 : x.lo ≤ y.lo) (h2 : y.hi ≤ x.hi) : (hitI x f = 1 ∧ hitI y f = 1) ∨ (hitI x f = 2 ∧ hitI y f = 2) ∨ (hitI x f = 1 ∧ hitI y f = 2) ∨ (hitI x f = 3 ∧ hitI y f = 3) := by
  unfold hitI
  rw [hp]
  generalize f[x.p.toNat]?.getD default = v
  by_cases h : v = 0
  · simp [h]
  · simp only [if_neg h]
    cases ha : within v x.lo x.hi with
    | true => cases hb : within v y.lo y.hi <;> simp
    | false =>
      have hb : within v y.lo y.hi = false := by
        cases hb : within v y.lo y.hi with
        | false => rfl
        | true =>
          rw [within_iff] at hb
          have h3 : within v x.lo x.hi = true := within_iff.2 (by omega)
          rw [ha] at h3
          cases h3
      rw [hb]
      simp

set_option maxHeartbeats 1600000 in
theorem c10 (b : Bk) (s ll hh : Int) : Ctr Try.prog 10 [DB b, .int s, .agg [.int ll, .int hh]] (.bool true) := by
  refine ctr_of_wp hmix Try.func10 m10g rfl ?_
  unfold v10g
  simp -failIfUnchanged (disch := first | omega | (simp <;> omega) | fail) only [go_sem, simprocAttr]
  refine wcall (c25 b) ?_
  cases hr : (!hugeB b && checkB b) with
  | false =>
    simp -failIfUnchanged (disch := first | omega | (simp <;> omega) | fail) only [go_sem, simprocAttr]
    refine wcall c17 ?_
    simp -failIfUnchanged (disch := first | omega | (simp <;> omega) | fail) only [go_sem, simprocAttr]
  | true =>
    simp only [Bool.and_eq_true, Bool.not_eq_true'] at hr
    obtain ⟨h1, h2⟩ := huge_false hr.1
    have hcb := hr.2
    have hv := bv_of hcb
    have hdp := hv.dp
    have hn : b.say.length < 4294967296 := by omega
    simp -failIfUnchanged (disch := first | omega | (simp <;> omega) | fail) only [go_sem, simprocAttr]
    refine wcall (c47 b s) ?_
    rw [w64_id (n := (b.say.length : Int) - 1) (by omega)]
    cases ho : within s 0 ((b.say.length : Int) - 1) with
    | false =>
      simp -failIfUnchanged (disch := first | omega | (simp <;> omega) | fail) only [go_sem, simprocAttr]
      refine wcall c17 ?_
      simp -failIfUnchanged (disch := first | omega | (simp <;> omega) | fail) only [go_sem, simprocAttr]
    | true =>
      have hsi := say_in ho
      obtain ⟨n, rfl⟩ : ∃ n : Nat, s = n := ⟨s.toNat, by omega⟩
      have hl : n < b.say.length := by omega
      obtain ⟨xd, k, xl, xh, hx, hsx, hkl⟩ := say_at hv hl
      have hsy := hv.sy n hl
      have hw := wid_eq hv hl
      rw [hsx] at hsy hw
      dsimp only at hsy hw
      simp -failIfUnchanged (disch := first | omega | (simp <;> omega) | fail) only [go_sem, simprocAttr]
      refine WGd_bool (fun h3 => ?_) (fun h3 => ?_)
      · have h3' : ¬ min ll hh < 0 := by simpa using h3
        simp -failIfUnchanged (disch := first | omega | (simp <;> omega) | fail) only [go_sem, simprocAttr, h3]
        refine wcond_dec (fun h4 => ?_) (fun h4 => ?_)
        · simp -failIfUnchanged (disch := first | omega | (simp <;> omega) | fail) only [go_sem, simprocAttr]
          refine wcall c17 ?_
          simp -failIfUnchanged (disch := first | omega | (simp <;> omega) | fail) only [go_sem, simprocAttr]
        · simp -failIfUnchanged (disch := first | omega | (simp <;> omega) | fail) only [go_sem, simprocAttr]
          refine wcall_in hmix Try.func22 m22s rfl ?_
          unfold v22s
          have hfl : (flS b.say).length = b.say.length * 4 := flS_len _
          have g2 : (flS b.say)[n * 4 + 2]?.getD default = xl := by rw [flS_get2, hx]; rfl
          have s2 : (flS b.say).set (n * 4 + 2) (xl + ll) = flS (b.say.set n ⟨xd, k, xl + ll, xh⟩) := by rw [flS_set2, hx]; rfl
          have g3 : (flS (b.say.set n ⟨xd, k, xl + ll, xh⟩))[n * 4 + 3]?.getD default = xh := by rw [flS_get3]; simp [hl]
          have s3 : (flS (b.say.set n ⟨xd, k, xl + ll, xh⟩)).set (n * 4 + 3) (xh - hh) = flS (b.say.set n ⟨xd, k, xl + ll, xh - hh⟩) := by rw [flS_set3]; simp [hl]
          have hfl2 : (flS (b.say.set n ⟨xd, k, xl + ll, xh⟩)).length = b.say.length * 4 := by rw [flS_len, List.length_set]
          simp -failIfUnchanged (disch := first | omega | (simp <;> omega) | fail) only [go_sem, simprocAttr, flat_sy, hfl, g2, s2, g3, s3, hfl2]
          refine wopsN [K 2 0 0] ?_
          have hfl3 : (b.say.length * 4 ≤ (flS (b.say.set n ⟨xd, k, xl + ll, xh - hh⟩)).length) = True := eq_true (by rw [flS_len, List.length_set]; omega)
          have hch : chunks true 4 ((flS (b.say.set n ⟨xd, k, xl + ll, xh - hh⟩)).map AV.int) 0 b.say.length = (b.say.set n ⟨xd, k, xl + ll, xh - hh⟩).map SY := by
            have := chunks_sy (b.say.set n ⟨xd, k, xl + ll, xh - hh⟩) ((flS (b.say.set n ⟨xd, k, xl + ll, xh - hh⟩)).map AV.int) 0 rfl
            rwa [List.length_set] at this
          simp -failIfUnchanged (disch := first | omega | (simp <;> omega) | fail) only [go_sem, simprocAttr, hfl3, hch]
          obtain ⟨Y, hY⟩ : ∃ Y : Sy, ⟨xd, k, xl + ll, xh - hh⟩ = Y := ⟨_, rfl⟩
          rw [hY]
          refine wcall (c25 (narB b n Y)) ?_
          have hBn : (narB b n Y).say.length = b.say.length := List.length_set
          cases hr2 : (!hugeB (narB b n Y) && checkB (narB b n Y)) with
          | false =>
            simp -failIfUnchanged (disch := first | omega | (simp <;> omega) | fail) only [go_sem, simprocAttr]
            refine wcall c17 ?_
            simp -failIfUnchanged (disch := first | omega | (simp <;> omega) | fail) only [go_sem, simprocAttr]
          | true =>
            simp only [Bool.and_eq_true, Bool.not_eq_true'] at hr2
            have hcb2 := hr2.2
            have hv2 := bv_of hcb2
            have hs2 : syt (narB b n Y) n = Y := by rw [nar_syt hl, if_pos rfl]
            have hsy2 := hv2.sy n (by omega)
            have hw2 := wid_eq hv2 (i := n) (by omega)
            rw [hs2] at hsy2 hw2
            have hYd : Y.d = xd := by rw [← hY]
            have hYp : Y.p = (k : Int) := by rw [← hY]
            have hYl : Y.lo = xl + ll := by rw [← hY]
            have hYh : Y.hi = xh - hh := by rw [← hY]
            rw [hYl, hYh] at hw2
            have k1 := c50 b hn n
            have k2 := c50 (narB b n Y) (by rw [hBn]; exact hn) n
            have k3 := c49 b hn n
            have k4 := c49 (narB b n Y) (by rw [hBn]; exact hn) n
            have k5 := c23 b hn xd
            have k6 := c23 (narB b n Y) (by rw [hBn]; exact hn) xd
            have hE1 : sE b n = 0 := ask_of hcb ho
            have hE2 : sE (narB b n Y) n = 0 := ask_of hcb2 (by rw [hBn]; exact ho)
            have hdin : within xd 0 (w64 (b.dow - 1)) = true := by
              have := hv.dw
              rw [w64_id (by omega)]
              exact within_iff.2 (by omega)
            have hE3 : dE b xd = 0 := ask_of hcb hdin
            have hE4 : dE (narB b n Y) xd = 0 := ask_of hcb2 hdin
            have hop : (opn b n) = (b.found[k]?.getD default = 0) := by unfold opn; rw [Int.toNat_natCast, hsx]; simp
            have hop2 : (opn (narB b n Y) n) = (b.found[k]?.getD default = 0) := by unfold opn; rw [Int.toNat_natCast, hs2, hYp, Int.toNat_natCast]
            have hp3 : hitI ⟨xd, k, xl, xh⟩ b.found ≠ 3 → ¬ b.found[k]?.getD default = 0 := fun h e => h (by unfold hitI; simp only [Int.toNat_natCast]; rw [if_pos e])
            unfold hitR at k1 k2
            unfold ptsR at k3 k4
            unfold scoR at k5 k6
            simp only [hE1, hE2, hE3, hE4, if_true, Int.toNat_natCast, hsx, hs2, hop, hop2] at k1 k2 k3 k4 k5 k6
            have hcases := hit_nar (x := ⟨xd, k, xl, xh⟩) (y := Y) (f := b.found) hYp (by rw [hYl]; show xl ≤ _; omega) (by rw [hYh]; show _ ≤ xh; omega)
            have go : ∀ q : Int, (q = 1 ∨ q = 2) → hitI ⟨xd, k, xl, xh⟩ b.found = q → hitI Y b.found = q → ptsOf b Y b.found = ptsOf b ⟨xd, k, xl, xh⟩ b.found + (ll + hh) := by
              intro q hq a1 a2
              unfold ptsOf
              rw [a1, a2, hw, hw2]
              rcases hq with rfl | rfl
              · rw [if_pos rfl, if_pos rfl, w64_id (by omega), w64_id (by omega)]; omega
              · simp only [show ¬ (2 : Int) = 1 by omega, if_false, if_true]
                rw [w64_id (by omega), w64_id (by omega)]; omega
            have hpb : -12 ≤ ptsOf b ⟨xd, k, xl, xh⟩ b.found ∧ ptsOf b ⟨xd, k, xl, xh⟩ b.found ≤ 12 := by
              have := pts_bd hv hl b.found
              rwa [hsx] at this
            have hsb := scoK_bd hv xd b.found b.say.length (Nat.le_refl _)
            have hsc : ∀ c, ptsOf b Y b.found = ptsOf b ⟨xd, k, xl, xh⟩ b.found + c → sco (narB b n Y) xd b.found = sco b xd b.found + c := by
              intro c hc
              have := nar_sco hl (x := Y) (c := c) (by rw [hYd, hsx]) (by rw [hsx]; exact hc) b.say.length (Nat.le_refl _)
              rw [hsx, if_pos hl] at this
              unfold sco
              rw [hBn]
              exact this
            rw [ptsOf_say (b := b) (b' := narB b n Y) rfl] at k4
            change -12 * (b.say.length : Int) ≤ sco b xd b.found ∧ sco b xd b.found ≤ 12 * (b.say.length : Int) at hsb
            rcases hcases with ⟨a1, a2⟩ | ⟨a1, a2⟩ | ⟨a1, a2⟩ | ⟨a1, a2⟩
            · have hg := go 1 (.inl rfl) a1 a2
              have hsg := hsc _ hg
              have hpz := hp3 (by rw [a1]; omega)
              rw [hsg] at k6
              rw [if_neg hpz, if_neg hpz, hg] at k4
              rw [if_neg hpz, if_neg hpz] at k3
              rw [a1] at k1
              rw [a2] at k2
              generalize ptsOf b ⟨xd, k, xl, xh⟩ b.found = P at *
              generalize sco b xd b.found = Q at *
              have e1 : decide (-100 < P) = true := decide_eq_true (by omega)
              have e2 : decide (P < 100) = true := decide_eq_true (by omega)
              have e3 : decide (-1000 < Q) = true := decide_eq_true (by omega)
              have e4 : decide (Q < 1000) = true := decide_eq_true (by omega)
              have e5 : decide (P + (ll + hh) = P + ll + hh) = true := decide_eq_true (by omega)
              have e6 : decide (Q + (ll + hh) = Q + ll + hh) = true := decide_eq_true (by omega)
              simp -failIfUnchanged (disch := first | omega | (simp <;> omega) | fail) only [go_sem, simprocAttr]
              refine wcall k1 ?_
              simp -failIfUnchanged (disch := first | omega | (simp <;> omega) | fail) only [go_sem, simprocAttr]
              refine wcall k2 ?_
              simp -failIfUnchanged (disch := first | omega | (simp <;> omega) | fail) only [go_sem, simprocAttr, eq_self]
              refine wcall k3 ?_
              simp -failIfUnchanged (disch := first | omega | (simp <;> omega) | fail) only [go_sem, simprocAttr]
              refine wcall k4 ?_
              simp -failIfUnchanged (disch := first | omega | (simp <;> omega) | fail) only [go_sem, simprocAttr, hx]
              refine wcall k5 ?_
              simp -failIfUnchanged (disch := first | omega | (simp <;> omega) | fail) only [go_sem, simprocAttr, hx]
              refine wcall k6 ?_
              simp -failIfUnchanged (disch := first | omega | (simp <;> omega) | fail) only [go_sem, simprocAttr, e1, e2, e3, e4, e5, e6, eq_self]
              refine wcall c17 ?_
              simp -failIfUnchanged (disch := first | omega | (simp <;> omega) | fail) only [go_sem, simprocAttr]
            · have hg := go 2 (.inr rfl) a1 a2
              have hsg := hsc _ hg
              have hpz := hp3 (by rw [a1]; omega)
              rw [hsg] at k6
              rw [if_neg hpz, if_neg hpz, hg] at k4
              rw [if_neg hpz, if_neg hpz] at k3
              rw [a1] at k1
              rw [a2] at k2
              generalize ptsOf b ⟨xd, k, xl, xh⟩ b.found = P at *
              generalize sco b xd b.found = Q at *
              have e1 : decide (-100 < P) = true := decide_eq_true (by omega)
              have e2 : decide (P < 100) = true := decide_eq_true (by omega)
              have e3 : decide (-1000 < Q) = true := decide_eq_true (by omega)
              have e4 : decide (Q < 1000) = true := decide_eq_true (by omega)
              have e5 : decide (P + (ll + hh) = P + ll + hh) = true := decide_eq_true (by omega)
              have e6 : decide (Q + (ll + hh) = Q + ll + hh) = true := decide_eq_true (by omega)
              simp -failIfUnchanged (disch := first | omega | (simp <;> omega) | fail) only [go_sem, simprocAttr]
              refine wcall k1 ?_
              simp -failIfUnchanged (disch := first | omega | (simp <;> omega) | fail) only [go_sem, simprocAttr]
              refine wcall k2 ?_
              simp -failIfUnchanged (disch := first | omega | (simp <;> omega) | fail) only [go_sem, simprocAttr, eq_self]
              refine wcall k3 ?_
              simp -failIfUnchanged (disch := first | omega | (simp <;> omega) | fail) only [go_sem, simprocAttr]
              refine wcall k4 ?_
              simp -failIfUnchanged (disch := first | omega | (simp <;> omega) | fail) only [go_sem, simprocAttr, hx]
              refine wcall k5 ?_
              simp -failIfUnchanged (disch := first | omega | (simp <;> omega) | fail) only [go_sem, simprocAttr, hx]
              refine wcall k6 ?_
              simp -failIfUnchanged (disch := first | omega | (simp <;> omega) | fail) only [go_sem, simprocAttr, e1, e2, e3, e4, e5, e6, eq_self]
              refine wcall c17 ?_
              simp -failIfUnchanged (disch := first | omega | (simp <;> omega) | fail) only [go_sem, simprocAttr]
            · rw [a1] at k1
              rw [a2] at k2
              simp -failIfUnchanged (disch := first | omega | (simp <;> omega) | fail) only [go_sem, simprocAttr]
              refine wcall k1 ?_
              simp -failIfUnchanged (disch := first | omega | (simp <;> omega) | fail) only [go_sem, simprocAttr]
              refine wcall k2 ?_
              simp -failIfUnchanged (disch := first | omega | (simp <;> omega) | fail) only [go_sem, simprocAttr, eq_self]
              refine wcall c17 ?_
              simp -failIfUnchanged (disch := first | omega | (simp <;> omega) | fail) only [go_sem, simprocAttr]
            · rw [a1] at k1
              rw [a2] at k2
              simp -failIfUnchanged (disch := first | omega | (simp <;> omega) | fail) only [go_sem, simprocAttr]
              refine wcall k1 ?_
              simp -failIfUnchanged (disch := first | omega | (simp <;> omega) | fail) only [go_sem, simprocAttr]
              refine wcall k2 ?_
              simp -failIfUnchanged (disch := first | omega | (simp <;> omega) | fail) only [go_sem, simprocAttr, eq_self]
              refine wcall c17 ?_
              simp -failIfUnchanged (disch := first | omega | (simp <;> omega) | fail) only [go_sem, simprocAttr]
      · simp -failIfUnchanged (disch := first | omega | (simp <;> omega) | fail) only [go_sem, simprocAttr, h3]
        refine wcall c17 ?_
        simp -failIfUnchanged (disch := first | omega | (simp <;> omega) | fail) only [go_sem, simprocAttr]

end Go.Proofs.Ytmcfibpeenhcnaa
