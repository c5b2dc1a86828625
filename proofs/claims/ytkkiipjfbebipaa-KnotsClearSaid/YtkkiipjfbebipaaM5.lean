/- Merged by program: T34b, T35, T36, T37, T38, T39, T40, T41, T47, T48, T49, T50, T51a, T52, T53, T54, T55, T56, T58, T59, T60, T61, T62, T63, T64. -/
import Derived.Test.YtkkiipjfbebipaaM4
import Derived.Test.YtkkiipjfbebipaaChecked
/- Small laws that several of the texts behind use. -/
set_option linter.unusedSimpArgs false
set_option linter.unusedVariables false
set_option linter.unnecessarySimpa false
namespace Go.Proofs.Ytkkiipjfbebipaa
open Go Go.V

theorem allOK_iff (b : Bk) (may : Nat → Nat → Nat → Bool) (carry : Nat → Nat → Bool) (l : List Nat) : allOK b may carry l = true ↔ ∀ p, p < b.places.toNat → (∀ c, c < b.cords.length + 1 → may c p (dgN b l c p) = true) ∧ carry p (carN b l p) = true := by
  unfold allOK
  simp only [List.all_eq_true, List.mem_range, Bool.and_eq_true]

theorem allOK_only {b : Bk} {may : Nat → Nat → Nat → Bool} {carry : Nat → Nat → Bool} {c p d : Nat} (hc : c ≤ b.cords.length) (hp : p < b.places.toNat) (l : List Nat) :
    allOK b (onlyF may c p d) carry l = (allOK b may carry l && decide (dgN b l c p = d)) := by
  rw [Bool.eq_iff_iff, Bool.and_eq_true, allOK_iff, allOK_iff, decide_eq_true_eq]
  constructor
  · intro h
    refine ⟨fun q hq => ⟨fun e he => ?_, (h q hq).2⟩, ?_⟩
    · have := (h q hq).1 e he
      simp only [onlyF, Bool.and_eq_true] at this
      exact this.1
    · have := (h p hp).1 c (by omega)
      simp only [onlyF, Bool.and_eq_true, Bool.or_eq_true, decide_eq_true_eq] at this
      rcases this.2 with h | h | h
      · exact absurd trivial h
      · exact absurd trivial h
      · exact h
  · rintro ⟨h, h2⟩ q hq
    refine ⟨fun e he => ?_, (h q hq).2⟩
    simp only [onlyF, Bool.and_eq_true, (h q hq).1 e he, true_and, Bool.or_eq_true, decide_eq_true_eq]
    by_cases e1 : e = c
    · by_cases e2 : q = p
      · subst e1 e2; exact .inr (.inr h2)
      · exact .inr (.inl e2)
    · exact .inl e1

theorem allOK_yes (b : Bk) (l : List Nat) : allOK b yes3 yes2 l = true := by
  rw [allOK_iff]
  exact fun _ _ => ⟨fun _ _ => rfl, rfl⟩

theorem take_snoc {α : Type} [Inhabited α] {l : List α} {k : Nat} (h : k < l.length) : l.take (k + 1) = l.take k ++ [l[k]?.getD default] := by
  rw [List.take_add_one, List.getElem?_eq_getElem h]
  rfl

theorem many_len {b : Bk} (hv : Val b) : (solveL b yes3 yes2).r = (allNs b).length := by
  rw [solveL_r hv, ← sumF_len]
  congr 1
  exact sumF_congr fun l _ => by rw [allOK_yes]; rfl

end Go.Proofs.Ytkkiipjfbebipaa

/- The reference's Cord; KnotsTie. -/
set_option linter.unusedSimpArgs false
set_option linter.unusedVariables false
set_option linter.unnecessarySimpa false
namespace Go.Proofs.Ytkkiipjfbebipaa
open Go Go.V

end Go.Proofs.Ytkkiipjfbebipaa

/- KnotsTie. -/
set_option linter.unusedSimpArgs false
set_option linter.unusedVariables false
set_option linter.unnecessarySimpa false
namespace Go.Proofs.Ytkkiipjfbebipaa
open Go Go.V

end Go.Proofs.Ytkkiipjfbebipaa

/- A row's arguments: a book, a list of integers, a record of integers. -/
set_option linter.unusedSimpArgs false
set_option linter.unusedVariables false
set_option linter.unnecessarySimpa false
namespace Go.Proofs.Ytkkiipjfbebipaa
open Go Go.V

theorem map_choose {α β γ : Type} {F : α → γ} {G : β → γ} {Q : β → Prop} : ∀ (es : List α), (∀ x ∈ es, ∃ s, F x = G s ∧ Q s) → ∃ l : List β, es.map F = l.map G ∧ l.length = es.length ∧ ∀ s ∈ l, Q s
  | [], _ => ⟨[], rfl, rfl, by simp⟩
  | x :: r, h => by
    obtain ⟨s, h1, h2⟩ := h x (by simp)
    obtain ⟨l, h3, h4, h5⟩ := map_choose r fun y hy => h y (by simp [hy])
    refine ⟨s :: l, by simp [h1, h3], by simp [h4], ?_⟩
    intro t ht
    rcases List.mem_cons.1 ht with rfl | ht
    · exact h2
    · exact h5 t ht

theorem ty_sp {cs : List AV} (h : Ty (.st [.int, .int]) cs) : ∃ s : Sp, cs = [.int s.lo, .int s.hi] := by
  simp only [Ty, TyL] at h
  obtain ⟨a, b, rfl, ⟨n, _, rfl⟩, c, d, rfl, ⟨m, _, rfl⟩, rfl⟩ := h
  exact ⟨⟨n, m⟩, rfl⟩

theorem ty_ss {cs : List AV} (h : Ty (.sl (.st [.int, .int])) cs) : ∃ l : List Sp, cs = [SS l] ∧ l.length < 9223372036854775808 := by
  rw [Ty] at h
  obtain ⟨es, rfl, h1, h2⟩ := h
  obtain ⟨l, h3, h4, _⟩ := map_choose (F := fun x => if TC.isSt (.st [.int, .int]) then AV.agg x else x[0]?.getD .und) (G := SP) (Q := fun _ => True) es (fun x hx => by
    obtain ⟨s, rfl⟩ := ty_sp (h2 x hx)
    exact ⟨s, rfl, trivial⟩)
  refine ⟨l, ?_, by omega⟩
  rw [h3]
  rfl

theorem ty_cs {cs : List AV} (h : Ty (.sl (.sl (.st [.int, .int]))) cs) : ∃ l : List (List Sp), cs = [.sl 1 (l.map SS) .sh] ∧ l.length < 9223372036854775808 ∧ ∀ x ∈ l, x.length < 9223372036854775808 := by
  rw [Ty] at h
  obtain ⟨es, rfl, h1, h2⟩ := h
  obtain ⟨l, h3, h4, h5⟩ := map_choose (F := fun x => if TC.isSt (.sl (.st [.int, .int])) then AV.agg x else x[0]?.getD .und) (G := SS) (Q := fun s => s.length < 9223372036854775808) es (fun x hx => by
    obtain ⟨s, rfl, hs⟩ := ty_ss (h2 x hx)
    exact ⟨s, rfl, hs⟩)
  refine ⟨l, ?_, by omega, h5⟩
  rw [h3]
  rfl

abbrev tcB : TC := .st [.int, .int, .sl (.sl (.st [.int, .int])), .sl (.st [.int, .int])]

theorem ty_book {av : AV} (h : TyV tcB av) : ∃ b : Bk, av = KB b ∧ b.cords.length < 9223372036854775808 ∧ b.top.length < 9223372036854775808 ∧ ∀ x ∈ b.cords, x.length < 9223372036854775808 := by
  obtain ⟨cs, rfl, h⟩ := h
  simp only [TyL] at h
  obtain ⟨a, x, rfl, ha, b, y, rfl, hb, c, z, rfl, hc, d, u, rfl, hd, rfl⟩ := h
  rw [Ty] at ha hb
  obtain ⟨n, _, rfl⟩ := ha
  obtain ⟨m, _, rfl⟩ := hb
  obtain ⟨l, rfl, h1, h2⟩ := ty_cs hc
  obtain ⟨t, rfl, h3⟩ := ty_ss hd
  exact ⟨⟨n, m, l, t⟩, rfl, h1, h3, h2⟩

theorem ty_sp1 {av : AV} (h : TyV (.st [.int, .int]) av) : ∃ s : Sp, av = SP s := by
  obtain ⟨cs, rfl, h⟩ := h
  obtain ⟨s, rfl⟩ := ty_sp (cs := cs) h
  exact ⟨s, rfl⟩

theorem ty_ask {av : AV} (h : TyV (.st [.int, .int, .int]) av) : ∃ n c p : Int, av = .agg [.int n, .int c, .int p] := by
  obtain ⟨cs, rfl, h⟩ := h
  simp only [TyL] at h
  obtain ⟨a, x, rfl, ha, b, y, rfl, hb, c, z, rfl, hc, rfl⟩ := h
  rw [Ty] at ha hb hc
  obtain ⟨n, _, rfl⟩ := ha
  obtain ⟨m, _, rfl⟩ := hb
  obtain ⟨k, _, rfl⟩ := hc
  exact ⟨n, m, k, rfl⟩

theorem laidOutP : laidOutB Try.prog = true := by kernel_rfl

end Go.Proofs.Ytkkiipjfbebipaa

/- KnotsBack. -/
set_option linter.unusedSimpArgs false
set_option linter.unusedVariables false
set_option linter.unnecessarySimpa false
namespace Go.Proofs.Ytkkiipjfbebipaa
open Go Go.V

theorem c28 (b : Bk) (h1 : b.cords.length < 9223372036854775808) : Ctr Try.prog 28 [KB b] (.bool (!hugeB b && checkB b)) := by
  refine ctr_of_wp hmix Try.func28 m28 rfl ?_
  unfold v28
  simp -failIfUnchanged (disch := first | omega | (simp [wcs_len] <;> omega) | fail) only [go_sem, simprocAttr]
  refine wcall (c48 b h1) ?_
  cases hh : hugeB b with
  | true => simp -failIfUnchanged (disch := first | omega | (simp [wcs_len] <;> omega) | fail) only [go_sem, simprocAttr]
  | false =>
    simp -failIfUnchanged (disch := first | omega | (simp [wcs_len] <;> omega) | fail) only [go_sem, simprocAttr]
    refine wcall (c50 b (small_small hh)) ?_
    cases hc : checkB b with
    | true => simp -failIfUnchanged (disch := first | omega | (simp [wcs_len] <;> omega) | fail) only [go_sem, simprocAttr]
    | false => simp -failIfUnchanged (disch := first | omega | (simp [wcs_len] <;> omega) | fail) only [go_sem, simprocAttr]

/-! Tie, and back. -/
end Go.Proofs.Ytkkiipjfbebipaa

/- Right readings; KnotsRight. -/
set_option linter.unusedSimpArgs false
set_option linter.unusedVariables false
set_option linter.unnecessarySimpa false
namespace Go.Proofs.Ytkkiipjfbebipaa
open Go Go.V

end Go.Proofs.Ytkkiipjfbebipaa

/- The program's Right. -/
set_option linter.unusedSimpArgs false
set_option linter.unusedVariables false
set_option linter.unnecessarySimpa false
namespace Go.Proofs.Ytkkiipjfbebipaa
open Go Go.V

end Go.Proofs.Ytkkiipjfbebipaa

/- The program's Right, walked. -/
set_option linter.unusedSimpArgs false
set_option linter.unusedVariables false
set_option linter.unnecessarySimpa false
namespace Go.Proofs.Ytkkiipjfbebipaa
open Go Go.V

end Go.Proofs.Ytkkiipjfbebipaa

/- Sure, Cluster and Carry by the list of right readings. -/
set_option linter.unusedSimpArgs false
set_option linter.unusedVariables false
set_option linter.unnecessarySimpa false
namespace Go.Proofs.Ytkkiipjfbebipaa
open Go Go.V

def spF (base : Int) (Q : Nat → Prop) [DecidablePred Q] (m : Nat) : Sp := (List.range m).foldl (fun s d => if Q d then ⟨min s.lo d, max s.hi d⟩ else s) ⟨base, 0⟩

theorem spF_spec (base : Int) (Q : Nat → Prop) [DecidablePred Q] : ∀ m : Nat, (m : Int) ≤ base →
    ((∀ d, d < m → ¬ Q d) ∧ spF base Q m = ⟨base, 0⟩) ∨ ∃ lo hi : Nat, lo < m ∧ hi < m ∧ Q lo ∧ Q hi ∧ spF base Q m = ⟨lo, hi⟩ ∧ ∀ d, d < m → Q d → lo ≤ d ∧ d ≤ hi
  | 0, _ => .inl ⟨fun d hd => by omega, by simp [spF]⟩
  | m + 1, hm => by
    have e : spF base Q (m + 1) = if Q m then ⟨min (spF base Q m).lo m, max (spF base Q m).hi m⟩ else spF base Q m := by
      unfold spF
      rw [List.range_succ, List.foldl_append]
      rfl
    rw [e]
    rcases spF_spec base Q m (by omega) with ⟨h1, h2⟩ | ⟨lo, hi, h1, h2, h3, h4, h5, h6⟩
    · by_cases hq : Q m
      · refine .inr ⟨m, m, by omega, by omega, hq, hq, ?_, ?_⟩
        · rw [if_pos hq, h2, Sp.mk.injEq]
          dsimp only
          omega
        · intro d hd hqd
          rcases Nat.lt_or_ge d m with h | h
          · exact absurd hqd (h1 d h)
          · omega
      · refine .inl ⟨fun d hd hqd => ?_, by rw [if_neg hq, h2]⟩
        rcases Nat.lt_or_ge d m with h | h
        · exact h1 d h hqd
        · have : d = m := by omega
          subst this; exact hq hqd
    · by_cases hq : Q m
      · refine .inr ⟨lo, m, by omega, by omega, h3, hq, ?_, ?_⟩
        · rw [if_pos hq, h5, Sp.mk.injEq]
          dsimp only
          omega
        · intro d hd hqd
          rcases Nat.lt_or_ge d m with h | h
          · have := h6 d h hqd; omega
          · omega
      · refine .inr ⟨lo, hi, by omega, by omega, h3, h4, by rw [if_neg hq, h5], fun d hd hqd => ?_⟩
        rcases Nat.lt_or_ge d m with h | h
        · exact h6 d h hqd
        · have : d = m := by omega
          subst this; exact absurd hqd hq

theorem manyR_pos {b : Bk} {L : List (List Nat)} {may : Nat → Nat → Nat → Bool} {carry : Nat → Nat → Bool} {c p d : Nat} (hc : c ≤ b.cords.length) (hp : p < b.places.toNat) :
    0 < manyR b L may carry c p d ↔ ∃ l ∈ L, allOK b may carry l = true ∧ dgN b l c p = d := by
  unfold manyR
  have : 0 < ((sumF L fun l => if allOK b (onlyF may c p d) carry l then 1 else 0 : Nat) : Int) ↔ 0 < sumF L fun l => if allOK b (onlyF may c p d) carry l then 1 else 0 := by omega
  rw [this, sumF_pos]
  constructor
  · rintro ⟨l, hl, h⟩
    refine ⟨l, hl, ?_⟩
    split at h
    · next h2 => rwa [allOK_only hc hp, Bool.and_eq_true, decide_eq_true_eq] at h2
    · omega
  · rintro ⟨l, hl, h1, h2⟩
    refine ⟨l, hl, ?_⟩
    rw [allOK_only hc hp, h1, h2]
    simp

/-- The span of the digits of a cluster in the readings that may be. -/
theorem spanR_spec {b : Bk} (hv : Val b) {L : List (List Nat)} {may : Nat → Nat → Nat → Bool} {carry : Nat → Nat → Bool} {c p : Nat} (hc : c ≤ b.cords.length) (hp : p < b.places.toNat)
    (hne : ∃ l ∈ L, allOK b may carry l = true) :
    ∃ lo hi : Nat, lo < b.base.toNat ∧ hi < b.base.toNat ∧ spanR b L may carry c p b.base.toNat = ⟨lo, hi⟩ ∧ (∃ l ∈ L, allOK b may carry l = true ∧ dgN b l c p = lo) ∧ (∃ l ∈ L, allOK b may carry l = true ∧ dgN b l c p = hi) ∧
      ∀ l ∈ L, allOK b may carry l = true → lo ≤ dgN b l c p ∧ dgN b l c p ≤ hi := by
  have hB : 0 < b.base.toNat := by have := hv.hb; omega
  have e : spanR b L may carry c p b.base.toNat = spF b.base (fun d => 0 < manyR b L may carry c p d) b.base.toNat := rfl
  rcases spF_spec b.base (fun d => 0 < manyR b L may carry c p d) b.base.toNat (by omega) with ⟨h1, _⟩ | ⟨lo, hi, h1, h2, h3, h4, h5, h6⟩
  · obtain ⟨l, hl, h⟩ := hne
    exact absurd ((manyR_pos hc hp).2 ⟨l, hl, h, rfl⟩) (h1 _ (Nat.mod_lt _ hB))
  · refine ⟨lo, hi, h1, h2, by rw [e, h5], (manyR_pos hc hp).1 h3, (manyR_pos hc hp).1 h4, fun l hl h => ?_⟩
    exact h6 _ (Nat.mod_lt _ hB) ((manyR_pos hc hp).2 ⟨l, hl, h, rfl⟩)

theorem spanL_spec (l : List Int) (h : 0 < l.length) : ∀ m, 0 < m → m ≤ l.length → (∃ x ∈ l.take m, (spanL l m).lo = x) ∧ (∃ x ∈ l.take m, (spanL l m).hi = x) ∧ ∀ x ∈ l.take m, (spanL l m).lo ≤ x ∧ x ≤ (spanL l m).hi
  | 0, h0, _ => by omega
  | m + 1, _, hm => by
    have e : spanL l (m + 1) = ⟨min (spanL l m).lo (l[m]?.getD default), max (spanL l m).hi (l[m]?.getD default)⟩ := by
      unfold spanL
      rw [take_snoc (by omega), List.foldl_append]
      rfl
    rw [e, take_snoc (show m < l.length by omega)]
    generalize hx : l[m]?.getD default = x
    rcases Nat.eq_zero_or_pos m with h0 | h0
    · subst h0
      have e0 : spanL l 0 = ⟨x, x⟩ := by
        unfold spanL
        rw [List.take_zero, List.foldl_nil, hx]
      rw [e0]
      refine ⟨⟨x, by simp, by dsimp only; omega⟩, ⟨x, by simp, by dsimp only; omega⟩, fun y hy => ?_⟩
      simp only [List.take_zero, List.nil_append, List.mem_singleton] at hy
      subst hy
      dsimp only
      omega
    · obtain ⟨⟨u, hu, h1⟩, ⟨v, hv, h2⟩, h3⟩ := spanL_spec l h m h0 (by omega)
      dsimp only
      refine ⟨?_, ?_, fun y hy => ?_⟩
      · rcases Int.lt_or_le x (spanL l m).lo with h | h
        · exact ⟨x, by simp, by omega⟩
        · exact ⟨u, by simp [hu], by omega⟩
      · rcases Int.lt_or_le (spanL l m).hi x with h | h
        · exact ⟨x, by simp, by omega⟩
        · exact ⟨v, by simp [hv], by omega⟩
      · rcases List.mem_append.1 hy with hy | hy
        · have := h3 y hy
          omega
        · simp only [List.mem_singleton] at hy
          subst hy
          omega

/-- What is the span of a list. -/
theorem spanL_uniq {l : List Int} {lo hi : Int} (h1 : lo ∈ l) (h2 : hi ∈ l) (h3 : ∀ x ∈ l, lo ≤ x ∧ x ≤ hi) : spanL l l.length = ⟨lo, hi⟩ := by
  have h0 : 0 < l.length := List.length_pos_of_mem h1
  obtain ⟨⟨u, hu, e1⟩, ⟨v, hv, e2⟩, e3⟩ := spanL_spec l h0 l.length h0 (Nat.le_refl _)
  rw [List.take_length] at hu hv e3
  have a1 := h3 u hu
  have a2 := h3 v hv
  have a3 := e3 lo h1
  have a4 := e3 hi h2
  generalize spanL l l.length = s at *
  obtain ⟨x, y⟩ := s
  rw [Sp.mk.injEq]
  dsimp only at *
  omega

end Go.Proofs.Ytkkiipjfbebipaa

/- The ends of what a cord has. -/
set_option linter.unusedSimpArgs false
set_option linter.unusedVariables false
set_option linter.unnecessarySimpa false
namespace Go.Proofs.Ytkkiipjfbebipaa
open Go Go.V

theorem numL_two {base : Int} {n e : Nat} (hb : 2 ≤ base ∧ base ≤ 10) (hn : n ≤ 100000) (he : e ≤ 100) : numL base [(n : Int), (e : Int)] = ((n * base.toNat + e : Nat) : Int) := by
  have hB : ((base.toNat : Nat) : Int) = base := by omega
  have h0 : w64 0 = 0 := by decide
  have h1 : n * base.toNat ≤ 100000 * 10 := Nat.mul_le_mul hn (by omega)
  have e1 : (n : Int) * base = ((n * base.toNat : Nat) : Int) := by rw [Int.natCast_mul, hB]
  unfold numL
  simp only [List.foldl_cons, List.foldl_nil, Int.zero_mul, h0, Int.zero_add]
  rw [w64_id (n := (n : Int)) (by omega), e1, w64_id (n := ((n * base.toNat : Nat) : Int)) (by omega), w64_id (by omega)]
  omega

theorem div_step {x N B : Nat} (hN : 0 < N) : x / N = x / (N * B) * B + x / N % B := by
  rw [← Nat.div_div_eq_div_mul, Nat.mul_comm]
  exact (Nat.div_add_mod (x / N) B).symm

theorem endR_lo {b : Bk} (hv : Val b) {L : List (List Nat)} {carry : Nat → Nat → Bool} {cord : Nat} (hc : cord ≤ b.cords.length) (hsm : ∀ l ∈ L, l[cord]?.getD default < allN b) :
    ∀ (k p : Nat) (may : Nat → Nat → Nat → Bool) (n : Nat), p + k = b.places.toNat → (∃ l ∈ L, allOK b may carry l = true) → (∀ l ∈ L, allOK b may carry l = true → l[cord]?.getD default / b.base.toNat ^ k = n) →
      ∃ r : Nat, endR b L carry cord (fun s => s.lo) p k may n = r ∧ (∃ l ∈ L, allOK b may carry l = true ∧ l[cord]?.getD default = r) ∧ ∀ l ∈ L, allOK b may carry l = true → r ≤ l[cord]?.getD default
  | 0, p, may, n, hpk, ⟨l, hl, h⟩, hn => by
    have h1 := hn l hl h
    rw [Nat.pow_zero, Nat.div_one] at h1
    refine ⟨n, rfl, ⟨l, hl, h, h1⟩, fun k hk h2 => ?_⟩
    have := hn k hk h2
    rw [Nat.pow_zero, Nat.div_one] at this
    omega
  | k + 1, p, may, n, hpk, hne, hn => by
    have hB : 0 < b.base.toNat := by have := hv.hb; omega
    have hall := allN_le hv
    obtain ⟨lo, hi, s1, s2, s3, ⟨l0, hl0, hl1, hl2⟩, _, s5⟩ := spanR_spec hv (L := L) (may := may) (carry := carry) hc (show p < b.places.toNat by omega) hne
    have hN : 0 < b.base.toNat ^ k := Nat.pow_pos hB
    have hdg : ∀ l : List Nat, dgN b l cord p = l[cord]?.getD default / b.base.toNat ^ k % b.base.toNat := by
      intro l
      unfold dgN
      rw [show b.places.toNat - 1 - p = k by omega]
    have hdv : ∀ l ∈ L, allOK b may carry l = true → l[cord]?.getD default / b.base.toNat ^ k = n * b.base.toNat + dgN b l cord p := by
      intro l hl h
      rw [hdg, ← hn l hl h, Nat.pow_succ]
      exact div_step hN
    have hnle : n ≤ 10000 := by
      have := hn l0 hl0 hl1
      have h2 := hsm l0 hl0
      have := Nat.div_le_self (l0[cord]?.getD default) (b.base.toNat ^ (k + 1))
      omega
    have hnum := numL_two hv.hb (n := n) (e := lo) (by omega) (by have := hv.hb; omega)
    rw [endR, s3]
    dsimp only
    rw [Int.toNat_natCast, hnum]
    obtain ⟨r, h1, ⟨l, hl, h2, h3⟩, h4⟩ := endR_lo hv (carry := carry) hc hsm k (p + 1) (onlyF may cord p lo) (n * b.base.toNat + lo) (by omega)
      ⟨l0, hl0, by rw [allOK_only hc (by omega), hl1, hl2]; simp⟩ (fun l hl h => by
        rw [allOK_only hc (by omega), Bool.and_eq_true, decide_eq_true_eq] at h
        rw [hdv l hl h.1, h.2])
    refine ⟨r, h1, ⟨l, hl, ?_, h3⟩, fun x hx hx2 => ?_⟩
    · rw [allOK_only hc (by omega), Bool.and_eq_true] at h2
      exact h2.1
    · rcases Nat.lt_or_ge lo (dgN b x cord p) with h | h
      · rw [allOK_only hc (by omega), Bool.and_eq_true, decide_eq_true_eq] at h2
        have d1 := hdv l hl h2.1
        have d2 := hdv x hx hx2
        rw [h2.2] at d1
        have : l[cord]?.getD default / b.base.toNat ^ k < x[cord]?.getD default / b.base.toNat ^ k := by omega
        have := Nat.lt_of_div_lt_div this
        omega
      · have h5 := (s5 x hx hx2).1
        refine h4 x hx ?_
        rw [allOK_only hc (by omega), hx2, Bool.true_and, decide_eq_true_eq]
        omega
theorem endR_hi {b : Bk} (hv : Val b) {L : List (List Nat)} {carry : Nat → Nat → Bool} {cord : Nat} (hc : cord ≤ b.cords.length) (hsm : ∀ l ∈ L, l[cord]?.getD default < allN b) :
    ∀ (k p : Nat) (may : Nat → Nat → Nat → Bool) (n : Nat), p + k = b.places.toNat → (∃ l ∈ L, allOK b may carry l = true) → (∀ l ∈ L, allOK b may carry l = true → l[cord]?.getD default / b.base.toNat ^ k = n) →
      ∃ r : Nat, endR b L carry cord (fun s => s.hi) p k may n = r ∧ (∃ l ∈ L, allOK b may carry l = true ∧ l[cord]?.getD default = r) ∧ ∀ l ∈ L, allOK b may carry l = true → l[cord]?.getD default ≤ r
  | 0, p, may, n, hpk, ⟨l, hl, h⟩, hn => by
    have h1 := hn l hl h
    rw [Nat.pow_zero, Nat.div_one] at h1
    refine ⟨n, rfl, ⟨l, hl, h, h1⟩, fun k hk h2 => ?_⟩
    have := hn k hk h2
    rw [Nat.pow_zero, Nat.div_one] at this
    omega
  | k + 1, p, may, n, hpk, hne, hn => by
    have hB : 0 < b.base.toNat := by have := hv.hb; omega
    have hall := allN_le hv
    obtain ⟨lo, hi, s1, s2, s3, _, ⟨l0, hl0, hl1, hl2⟩, s5⟩ := spanR_spec hv (L := L) (may := may) (carry := carry) hc (show p < b.places.toNat by omega) hne
    have hN : 0 < b.base.toNat ^ k := Nat.pow_pos hB
    have hdg : ∀ l : List Nat, dgN b l cord p = l[cord]?.getD default / b.base.toNat ^ k % b.base.toNat := by
      intro l
      unfold dgN
      rw [show b.places.toNat - 1 - p = k by omega]
    have hdv : ∀ l ∈ L, allOK b may carry l = true → l[cord]?.getD default / b.base.toNat ^ k = n * b.base.toNat + dgN b l cord p := by
      intro l hl h
      rw [hdg, ← hn l hl h, Nat.pow_succ]
      exact div_step hN
    have hnle : n ≤ 10000 := by
      have := hn l0 hl0 hl1
      have h2 := hsm l0 hl0
      have := Nat.div_le_self (l0[cord]?.getD default) (b.base.toNat ^ (k + 1))
      omega
    have hnum := numL_two hv.hb (n := n) (e := hi) (by omega) (by have := hv.hb; omega)
    rw [endR, s3]
    dsimp only
    rw [Int.toNat_natCast, hnum]
    obtain ⟨r, h1, ⟨l, hl, h2, h3⟩, h4⟩ := endR_hi hv (carry := carry) hc hsm k (p + 1) (onlyF may cord p hi) (n * b.base.toNat + hi) (by omega)
      ⟨l0, hl0, by rw [allOK_only hc (by omega), hl1, hl2]; simp⟩ (fun l hl h => by
        rw [allOK_only hc (by omega), Bool.and_eq_true, decide_eq_true_eq] at h
        rw [hdv l hl h.1, h.2])
    refine ⟨r, h1, ⟨l, hl, ?_, h3⟩, fun x hx hx2 => ?_⟩
    · rw [allOK_only hc (by omega), Bool.and_eq_true] at h2
      exact h2.1
    · rcases Nat.lt_or_ge (dgN b x cord p) hi with h | h
      · rw [allOK_only hc (by omega), Bool.and_eq_true, decide_eq_true_eq] at h2
        have d1 := hdv l hl h2.1
        have d2 := hdv x hx hx2
        rw [h2.2] at d1
        have : x[cord]?.getD default / b.base.toNat ^ k < l[cord]?.getD default / b.base.toNat ^ k := by omega
        have := Nat.lt_of_div_lt_div this
        omega
      · have h5 := (s5 x hx hx2).2
        refine h4 x hx ?_
        rw [allOK_only hc (by omega), hx2, Bool.true_and, decide_eq_true_eq]
        omega
theorem sure_eq {b : Bk} (hv : Val b) {c : Nat} (hc : c ≤ b.cords.length) (hne : 0 < (allNs b).length) : sureD b c = spanL (colS b c (allNs b).length) (allNs b).length := by
  have hsm : ∀ l ∈ allNs b, l[c]?.getD default < allN b := by
    intro l hl
    obtain ⟨h1, h2⟩ := allNs_mem hl
    exact h2 _ (mem_getD (by omega))
  have h0 : ∀ l ∈ allNs b, allOK b yes3 yes2 l = true → l[c]?.getD default / b.base.toNat ^ b.places.toNat = 0 := fun l hl _ => Nat.div_eq_of_lt (hsm l hl)
  obtain ⟨x, hx1, ⟨l, hl, _, hl2⟩, hx3⟩ := endR_lo hv (carry := yes2) hc hsm b.places.toNat 0 yes3 0 (by omega) ⟨(allNs b)[0], List.getElem_mem _, allOK_yes b _⟩ h0
  obtain ⟨y, hy1, ⟨k, hk, _, hk2⟩, hy3⟩ := endR_hi hv (carry := yes2) hc hsm b.places.toNat 0 yes3 0 (by omega) ⟨(allNs b)[0], List.getElem_mem _, allOK_yes b _⟩ h0
  have hd : colS b c (allNs b).length = (allNs b).map fun l => ((l[c]?.getD default : Nat) : Int) := by
    unfold colS
    rw [List.take_length]
  have := spanL_uniq (l := (allNs b).map fun l => ((l[c]?.getD default : Nat) : Int)) (lo := x) (hi := y) (List.mem_map.2 ⟨l, hl, by rw [hl2]⟩) (List.mem_map.2 ⟨k, hk, by rw [hk2]⟩) (fun z hz => by
    obtain ⟨l, hl, rfl⟩ := List.mem_map.1 hz
    have := hx3 l hl (allOK_yes b _)
    have := hy3 l hl (allOK_yes b _)
    omega)
  rw [List.length_map] at this
  rw [hd, this]
  unfold sureD
  rw [endF_R hv, endF_R hv]
  have hx1' : endR b (allNs b) yes2 c (fun s => s.lo) 0 b.places.toNat yes3 0 = x := hx1
  have hy1' : endR b (allNs b) yes2 c (fun s => s.hi) 0 b.places.toNat yes3 0 = y := hy1
  rw [hx1', hy1']

end Go.Proofs.Ytkkiipjfbebipaa

/- What is carried: the reference's CarryOf. -/
set_option linter.unusedSimpArgs false
set_option linter.unusedVariables false
set_option linter.unnecessarySimpa false
namespace Go.Proofs.Ytkkiipjfbebipaa
open Go Go.V

end Go.Proofs.Ytkkiipjfbebipaa

/- The reference's Carry. -/
set_option linter.unusedSimpArgs false
set_option linter.unusedVariables false
set_option linter.unnecessarySimpa false
namespace Go.Proofs.Ytkkiipjfbebipaa
open Go Go.V

end Go.Proofs.Ytkkiipjfbebipaa

/- Many, Sure, Cluster and Carry: both ways say the same. -/
set_option linter.unusedSimpArgs false
set_option linter.unusedVariables false
set_option linter.unnecessarySimpa false
namespace Go.Proofs.Ytkkiipjfbebipaa
open Go Go.V

def ansS (b : Bk) (is : Bool) (v : Sp) : Sp × Int := if checkB b then if is then if (allNs b).length = 0 then (⟨0, 0⟩, 3) else (v, 0) else (⟨0, 0⟩, 1) else (⟨0, 0⟩, 110)

theorem ansR_S {b : Bk} (is : Bool) (u v : Sp) (h : checkB b = true → is = true → 0 < (allNs b).length → u = v) : ansR b is (SP ⟨0, 0⟩) (SP u) = .tup [SP (ansS b is v).1, .int (ansS b is v).2] := by
  unfold ansR ansS
  cases hc : checkB b with
  | false => rfl
  | true =>
    cases is with
    | false => rfl
    | true =>
      rw [if_pos rfl, if_pos rfl, if_pos rfl, if_pos rfl, many_len (val_of_check hc)]
      by_cases h0 : (allNs b).length = 0
      · rw [if_pos (by omega), if_pos h0]
      · rw [if_neg (by omega), if_neg h0, h hc rfl (by omega)]

def sureR (b : Bk) (c : Int) : Sp × Int := ansS b (within c 0 b.cords.length) (spanL (colS b c.toNat (allNs b).length) (allNs b).length)
def manyR2 (b : Bk) : Int × Int := if checkB b then ((allNs b).length, 0) else (0, 110)

theorem c34r (b : Bk) (hs : Small b) : Ctr Try.prog 34 [KB b] (.tup [.int (manyR2 b).1, .int (manyR2 b).2]) := by
  have := c34 b hs
  unfold manyR2
  cases hc : checkB b with
  | false => simpa [hc] using this
  | true =>
    rw [many_len (val_of_check hc)] at this
    simpa [hc] using this

theorem c35r (b : Bk) (hs : Small b) (c : Int) : Ctr Try.prog 35 [KB b, .int c] (.tup [SP (sureR b c).1, .int (sureR b c).2]) := by
  have := c35 b hs c
  rwa [ansR_S _ _ (spanL (colS b c.toNat (allNs b).length) (allNs b).length) (fun hc hi hne => sure_eq (val_of_check hc) (by simp [within] at hi; omega) hne)] at this

end Go.Proofs.Ytkkiipjfbebipaa

/- The reference's Knots and cost. -/
set_option linter.unusedSimpArgs false
set_option linter.unusedVariables false
set_option linter.unnecessarySimpa false
namespace Go.Proofs.Ytkkiipjfbebipaa
open Go Go.V

theorem isum_le {n : Nat} {f : Nat → Int} {K : Int} (h : ∀ i, i < n → f i ≤ K) : isum n f ≤ n * K := by
  induction n with
  | zero => simp [isum_zero]
  | succ n ih =>
    rw [isum_succ]
    have h1 := ih fun i hi => h i (by omega)
    have h2 := h n (by omega)
    have : ((n + 1 : Nat) : Int) * K = n * K + K := by
      rw [Int.natCast_add, Int.add_mul]
      simp
    omega

def knotsL (l : List Sp) (ds : List Int) (k : Nat) : Int := isum k fun i => costL (l[i]?.getD default) (ds[i]?.getD default)

theorem c75 (l : List Sp) (ds : List Int) (h : ds.length = l.length) (hl : l.length ≤ 1000) (hs : ∀ s ∈ l, 0 ≤ s.lo ∧ s.lo ≤ s.hi ∧ s.hi ≤ 1000) (hd : ∀ d ∈ ds, 0 ≤ d ∧ d ≤ 1000) : Ctr Try.prog 75 [SS l, IS ds] (.int (knotsL l ds l.length)) := by
  refine ctr_of_wp hmix Try.func75 m75 rfl ?_
  unfold v75 IS
  simp -failIfUnchanged (disch := first | omega | (simp only [List.length_map, List.length_append, List.length_cons, List.length_nil, List.length_take, List.length_drop, cells_int, cells_bool, cells_agg, cells_sl, cells_clo, cells_und, wcs_len, List.length_replicate, List.length_set]; done) | (simp only [List.length_map, List.length_append, List.length_cons, List.length_nil, List.length_take, List.length_drop, cells_int, cells_bool, cells_agg, cells_sl, cells_clo, cells_und, wcs_len, List.length_replicate, List.length_set]; omega)) only [go_sem, simprocAttr]
  refine wp_loop' Nat (fun i => ⟨[(0, SS l), (1, IS ds), (5, .int (knotsL l ds i)), (6, .int i)], [], [], none⟩) (fun i => i ≤ l.length) (fun i => l.length - i) 0 (by simp) (by unfold IS; simp -failIfUnchanged (disch := first | omega | (simp only [List.length_map, List.length_append, List.length_cons, List.length_nil, List.length_take, List.length_drop, cells_int, cells_bool, cells_agg, cells_sl, cells_clo, cells_und, wcs_len, List.length_replicate, List.length_set]; done) | (simp only [List.length_map, List.length_append, List.length_cons, List.length_nil, List.length_take, List.length_drop, cells_int, cells_bool, cells_agg, cells_sl, cells_clo, cells_und, wcs_len, List.length_replicate, List.length_set]; omega)) only [go_sem, simprocAttr]; try simp [knotsL, isum_zero]) ?_
  intro i hi
  unfold IS
  simp -failIfUnchanged (disch := first | omega | (simp only [List.length_map, List.length_append, List.length_cons, List.length_nil, List.length_take, List.length_drop, cells_int, cells_bool, cells_agg, cells_sl, cells_clo, cells_und, wcs_len, List.length_replicate, List.length_set]; done) | (simp only [List.length_map, List.length_append, List.length_cons, List.length_nil, List.length_take, List.length_drop, cells_int, cells_bool, cells_agg, cells_sl, cells_clo, cells_und, wcs_len, List.length_replicate, List.length_set]; omega)) only [go_sem, simprocAttr]
  refine wcond_dec (fun h1 => ?_) (fun h1 => ?_)
  · have hlt : i < l.length := by omega
    obtain ⟨s1, s2, s3⟩ := hs _ (mem_getD hlt)
    obtain ⟨d1, d2⟩ := hd _ (mem_getD (show i < ds.length by omega))
    have hk0 : 0 ≤ knotsL l ds i := isum_nonneg fun j _ => costL_nonneg _ _
    have hk1 : knotsL l ds i ≤ i * 1000 := isum_le fun j hj => by
      obtain ⟨a1, a2, a3⟩ := hs _ (mem_getD (show j < l.length by omega))
      obtain ⟨b1, b2⟩ := hd _ (mem_getD (show j < ds.length by omega))
      unfold costL
      omega
    have hsucc : knotsL l ds (i + 1) = knotsL l ds i + costL (l[i]?.getD default) (ds[i]?.getD default) := isum_succ _ _
    unfold costL at hsucc
    generalize hs0 : l[i]?.getD default = s at *
    generalize hd0 : ds[i]?.getD default = d at *
    generalize knotsL l ds i = K at *
    simp -failIfUnchanged (disch := first | omega | (simp only [List.length_map, List.length_append, List.length_cons, List.length_nil, List.length_take, List.length_drop, cells_int, cells_bool, cells_agg, cells_sl, cells_clo, cells_und, wcs_len, List.length_replicate, List.length_set]; done) | (simp only [List.length_map, List.length_append, List.length_cons, List.length_nil, List.length_take, List.length_drop, cells_int, cells_bool, cells_agg, cells_sl, cells_clo, cells_und, wcs_len, List.length_replicate, List.length_set]; omega)) only [go_sem, simprocAttr, hs0, hd0]
    refine ⟨i + 1, by omega, by dsimp only; omega, ?_⟩
    dsimp only
    rw [hsucc]
    simp -failIfUnchanged (disch := first | omega | (simp only [List.length_map, List.length_append, List.length_cons, List.length_nil, List.length_take, List.length_drop, cells_int, cells_bool, cells_agg, cells_sl, cells_clo, cells_und, wcs_len, List.length_replicate, List.length_set]; done) | (simp only [List.length_map, List.length_append, List.length_cons, List.length_nil, List.length_take, List.length_drop, cells_int, cells_bool, cells_agg, cells_sl, cells_clo, cells_und, wcs_len, List.length_replicate, List.length_set]; omega)) only [go_sem, simprocAttr]
    try simp
  · have e : i = l.length := by omega
    subst e
    simp -failIfUnchanged (disch := first | omega | (simp only [List.length_map, List.length_append, List.length_cons, List.length_nil, List.length_take, List.length_drop, cells_int, cells_bool, cells_agg, cells_sl, cells_clo, cells_und, wcs_len, List.length_replicate, List.length_set]; done) | (simp only [List.length_map, List.length_append, List.length_cons, List.length_nil, List.length_take, List.length_drop, cells_int, cells_bool, cells_agg, cells_sl, cells_clo, cells_und, wcs_len, List.length_replicate, List.length_set]; omega)) only [go_sem, simprocAttr]

/-- A sum that may be of any function. -/
theorem knotsL_bd {b : Bk} (hv : Val b) {c : Nat} (hc : c ≤ b.cords.length) (l : List Nat) : 0 ≤ (isum b.places.toNat fun p => costL (cordSp b c p) (dgN b l c p : Nat)) ∧ (isum b.places.toNat fun p => costL (cordSp b c p) (dgN b l c p : Nat)) ≤ 40 := by
  have hbb := hv.hb
  have hpp := hv.hp
  obtain ⟨h1, h2⟩ := cordAt_val hv hc
  refine ⟨isum_nonneg fun p _ => costL_nonneg _ _, ?_⟩
  have : (isum b.places.toNat fun p => costL (cordSp b c p) (dgN b l c p : Nat)) ≤ (b.places.toNat : Int) * 10 := isum_le fun p hp => by
    obtain ⟨s1, s2, s3⟩ := h2 _ (mem_getD (show p < (cordAt b c).length by omega))
    have : dgN b l c p < b.base.toNat := Nat.mod_lt _ (by omega)
    unfold costL cordSp
    omega
  omega

theorem knotsL_tie {b : Bk} (hv : Val b) {c : Nat} (hc : c ≤ b.cords.length) (l : List Nat) : knotsL (cordAt b c) (tieN b.base.toNat b.places.toNat (l[c]?.getD default)) (cordAt b c).length = isum b.places.toNat fun p => costL (cordSp b c p) (dgN b l c p : Nat) := by
  have h1 := (cordAt_val hv hc).1
  have hpp := hv.hp
  unfold knotsL
  rw [show (cordAt b c).length = b.places.toNat by omega]
  refine isum_congr fun p hp => ?_
  rw [tieN_at _ _ _ _ hp]
  rfl

theorem c75r (b : Bk) (hv : Val b) {c : Nat} (hc : c ≤ b.cords.length) (l : List Nat) : Ctr Try.prog 75 [SS (cordAt b c), IS (tieN b.base.toNat b.places.toNat (l[c]?.getD default))] (.int (isum b.places.toNat fun p => costL (cordSp b c p) (dgN b l c p : Nat))) := by
  obtain ⟨h1, h2⟩ := cordAt_val hv hc
  have hbb := hv.hb
  have hpp := hv.hp
  have := c75 (cordAt b c) (tieN b.base.toNat b.places.toNat (l[c]?.getD default)) (by rw [tieN_len]; omega) (by omega) (fun s hs => by have := h2 s hs; omega) (fun d hd => by
    obtain ⟨i, hi, rfl⟩ := List.mem_iff_getElem.1 hd
    have hi' : i < b.places.toNat := by rwa [tieN_len] at hi
    have := tieN_at b.base.toNat b.places.toNat (l[c]?.getD default) i hi'
    rw [List.getElem?_eq_getElem hi, Option.getD_some] at this
    rw [this]
    have := Nat.mod_lt (l[c]?.getD default / b.base.toNat ^ (b.places.toNat - 1 - i)) (show 0 < b.base.toNat by omega)
    omega)
  rwa [knotsL_tie hv hc] at this

theorem costN_bd {b : Bk} (hv : Val b) (l : List Nat) : 0 ≤ costN b l ∧ costN b l ≤ 200 := by
  have hcl := hv.hc
  refine ⟨isum_nonneg fun c hc => (knotsL_bd hv (by omega) l).1, ?_⟩
  have : costN b l ≤ ((b.cords.length + 1 : Nat) : Int) * 40 := isum_le fun c hc => (knotsL_bd hv (by omega) l).2
  omega

theorem c107 (b : Bk) (hv : Val b) (l : List Nat) (hl : l.length = b.cords.length + 1) (hsm : ∀ x ∈ l, x < allN b) : Ctr Try.prog 107 [KB b, IS (nat l)] (.int (costN b l)) := by
  refine ctr_of_wp hmix Try.func107 m107 rfl ?_
  unfold v107
  have hall := allN_le hv
  have hcl := hv.hc
  have hnl : (nat l).length = b.cords.length + 1 := by rw [List.length_map]; exact hl
  simp -failIfUnchanged (disch := first | omega | (simp only [List.length_map, List.length_append, List.length_cons, List.length_nil, List.length_take, List.length_drop, cells_int, cells_bool, cells_agg, cells_sl, cells_clo, cells_und, wcs_len, List.length_replicate, List.length_set]; done) | (simp only [List.length_map, List.length_append, List.length_cons, List.length_nil, List.length_take, List.length_drop, cells_int, cells_bool, cells_agg, cells_sl, cells_clo, cells_und, wcs_len, List.length_replicate, List.length_set]; omega)) only [go_sem, simprocAttr]
  refine wp_loop' Nat (fun i => ⟨[(1, IS (nat l)), (2, .ptr 2 0), (5, .int (isum i fun c => isum b.places.toNat fun p => costL (cordSp b c p) (dgN b l c p : Nat))), (6, .int i)], [(2, ⟨[.int b.base, .int b.places, .sl 1 (b.cords.map SS) .sh, SS b.top], false⟩)], [], none⟩) (fun i => i ≤ b.cords.length + 1) (fun i => b.cords.length + 1 - i) 0 (by simp) (by simp -failIfUnchanged (disch := first | omega | (simp only [List.length_map, List.length_append, List.length_cons, List.length_nil, List.length_take, List.length_drop, cells_int, cells_bool, cells_agg, cells_sl, cells_clo, cells_und, wcs_len, List.length_replicate, List.length_set]; done) | (simp only [List.length_map, List.length_append, List.length_cons, List.length_nil, List.length_take, List.length_drop, cells_int, cells_bool, cells_agg, cells_sl, cells_clo, cells_und, wcs_len, List.length_replicate, List.length_set]; omega)) only [go_sem, simprocAttr]; try simp [isum_zero]) ?_
  intro i hi
  have hs1 : 0 ≤ isum i fun c => isum b.places.toNat fun p => costL (cordSp b c p) (dgN b l c p : Nat) := isum_nonneg fun c hc => (knotsL_bd hv (by omega) l).1
  have hs2 : (isum i fun c => isum b.places.toNat fun p => costL (cordSp b c p) (dgN b l c p : Nat)) ≤ (i : Int) * 40 := isum_le fun c hc => (knotsL_bd hv (by omega) l).2
  have hsucc : (isum (i + 1) fun c => isum b.places.toNat fun p => costL (cordSp b c p) (dgN b l c p : Nat)) = (isum i fun c => isum b.places.toNat fun p => costL (cordSp b c p) (dgN b l c p : Nat)) + isum b.places.toNat fun p => costL (cordSp b i p) (dgN b l i p : Nat) := isum_succ _ _
  simp -failIfUnchanged (disch := first | omega | (simp only [List.length_map, List.length_append, List.length_cons, List.length_nil, List.length_take, List.length_drop, cells_int, cells_bool, cells_agg, cells_sl, cells_clo, cells_und, wcs_len, List.length_replicate, List.length_set]; done) | (simp only [List.length_map, List.length_append, List.length_cons, List.length_nil, List.length_take, List.length_drop, cells_int, cells_bool, cells_agg, cells_sl, cells_clo, cells_und, wcs_len, List.length_replicate, List.length_set]; omega)) only [go_sem, simprocAttr]
  refine wcond_dec (fun h1 => ?_) (fun h1 => ?_)
  · have hic : i ≤ b.cords.length := by omega
    have hxl : l[i]?.getD default < allN b := hsm _ (mem_getD (by omega))
    have hkb := knotsL_bd hv hic l
    simp -failIfUnchanged (disch := first | omega | (simp only [List.length_map, List.length_append, List.length_cons, List.length_nil, List.length_take, List.length_drop, cells_int, cells_bool, cells_agg, cells_sl, cells_clo, cells_und, wcs_len, List.length_replicate, List.length_set]; done) | (simp only [List.length_map, List.length_append, List.length_cons, List.length_nil, List.length_take, List.length_drop, cells_int, cells_bool, cells_agg, cells_sl, cells_clo, cells_und, wcs_len, List.length_replicate, List.length_set]; omega)) only [go_sem, simprocAttr]
    refine wcall (c32 b i hic) ?_
    simp -failIfUnchanged (disch := first | omega | (simp only [List.length_map, List.length_append, List.length_cons, List.length_nil, List.length_take, List.length_drop, cells_int, cells_bool, cells_agg, cells_sl, cells_clo, cells_und, wcs_len, List.length_replicate, List.length_set]; done) | (simp only [List.length_map, List.length_append, List.length_cons, List.length_nil, List.length_take, List.length_drop, cells_int, cells_bool, cells_agg, cells_sl, cells_clo, cells_und, wcs_len, List.length_replicate, List.length_set]; omega)) only [go_sem, simprocAttr, nat_get]
    refine wcall (c69 b hv (l[i]?.getD default) (by omega)) ?_
    simp -failIfUnchanged (disch := first | omega | (simp only [List.length_map, List.length_append, List.length_cons, List.length_nil, List.length_take, List.length_drop, cells_int, cells_bool, cells_agg, cells_sl, cells_clo, cells_und, wcs_len, List.length_replicate, List.length_set]; done) | (simp only [List.length_map, List.length_append, List.length_cons, List.length_nil, List.length_take, List.length_drop, cells_int, cells_bool, cells_agg, cells_sl, cells_clo, cells_und, wcs_len, List.length_replicate, List.length_set]; omega)) only [go_sem, simprocAttr]
    refine wcall (c75r b hv hic l) ?_
    generalize (isum i fun c => isum b.places.toNat fun p => costL (cordSp b c p) (dgN b l c p : Nat)) = S at *
    generalize (isum b.places.toNat fun p => costL (cordSp b i p) (dgN b l i p : Nat)) = K at *
    simp -failIfUnchanged (disch := first | omega | (simp only [List.length_map, List.length_append, List.length_cons, List.length_nil, List.length_take, List.length_drop, cells_int, cells_bool, cells_agg, cells_sl, cells_clo, cells_und, wcs_len, List.length_replicate, List.length_set]; done) | (simp only [List.length_map, List.length_append, List.length_cons, List.length_nil, List.length_take, List.length_drop, cells_int, cells_bool, cells_agg, cells_sl, cells_clo, cells_und, wcs_len, List.length_replicate, List.length_set]; omega)) only [go_sem, simprocAttr]
    refine ⟨i + 1, by omega, by dsimp only; omega, ?_⟩
    dsimp only
    rw [hsucc]
    simp -failIfUnchanged (disch := first | omega | (simp only [List.length_map, List.length_append, List.length_cons, List.length_nil, List.length_take, List.length_drop, cells_int, cells_bool, cells_agg, cells_sl, cells_clo, cells_und, wcs_len, List.length_replicate, List.length_set]; done) | (simp only [List.length_map, List.length_append, List.length_cons, List.length_nil, List.length_take, List.length_drop, cells_int, cells_bool, cells_agg, cells_sl, cells_clo, cells_und, wcs_len, List.length_replicate, List.length_set]; omega)) only [go_sem, simprocAttr]
    try simp
  · have e : i = b.cords.length + 1 := by omega
    subst e
    simp -failIfUnchanged (disch := first | omega | (simp only [List.length_map, List.length_append, List.length_cons, List.length_nil, List.length_take, List.length_drop, cells_int, cells_bool, cells_agg, cells_sl, cells_clo, cells_und, wcs_len, List.length_replicate, List.length_set]; done) | (simp only [List.length_map, List.length_append, List.length_cons, List.length_nil, List.length_take, List.length_drop, cells_int, cells_bool, cells_agg, cells_sl, cells_clo, cells_und, wcs_len, List.length_replicate, List.length_set]; omega)) only [go_sem, simprocAttr]
    try rfl

end Go.Proofs.Ytkkiipjfbebipaa

/- Wide; the reference's Retie and Blame. -/
set_option linter.unusedSimpArgs false
set_option linter.unusedVariables false
set_option linter.unnecessarySimpa false
namespace Go.Proofs.Ytkkiipjfbebipaa
open Go Go.V

def wideP (b : Bk) : Bool := (List.range (max 1 b.cords.length)).any fun i => decide (1300 < allN b ^ (i + 1))
def wideB (b : Bk) : Bool := hugeB b || (checkB b && wideP b)

theorem c22 (b : Bk) (h1 : b.cords.length < 9223372036854775808) : Ctr Try.prog 22 [KB b] (.bool (wideB b)) := by
  refine ctr_of_wp hmix Try.func22 m22 rfl ?_
  unfold v22 wideB
  simp -failIfUnchanged (disch := first | omega | (simp only [List.length_map, List.length_append, List.length_cons, List.length_nil, List.length_take, List.length_drop, cells_int, cells_bool, cells_agg, cells_sl, cells_clo, cells_und, wcs_len, List.length_replicate, List.length_set]; done) | (simp only [List.length_map, List.length_append, List.length_cons, List.length_nil, List.length_take, List.length_drop, cells_int, cells_bool, cells_agg, cells_sl, cells_clo, cells_und, wcs_len, List.length_replicate, List.length_set]; omega)) only [go_sem, simprocAttr]
  refine wcall (c48 b h1) ?_
  cases hh : hugeB b with
  | true => simp -failIfUnchanged (disch := first | omega | (simp only [List.length_map, List.length_append, List.length_cons, List.length_nil, List.length_take, List.length_drop, cells_int, cells_bool, cells_agg, cells_sl, cells_clo, cells_und, wcs_len, List.length_replicate, List.length_set]; done) | (simp only [List.length_map, List.length_append, List.length_cons, List.length_nil, List.length_take, List.length_drop, cells_int, cells_bool, cells_agg, cells_sl, cells_clo, cells_und, wcs_len, List.length_replicate, List.length_set]; omega)) only [go_sem, simprocAttr]
  | false =>
    have hs := small_small hh
    simp -failIfUnchanged (disch := first | omega | (simp only [List.length_map, List.length_append, List.length_cons, List.length_nil, List.length_take, List.length_drop, cells_int, cells_bool, cells_agg, cells_sl, cells_clo, cells_und, wcs_len, List.length_replicate, List.length_set]; done) | (simp only [List.length_map, List.length_append, List.length_cons, List.length_nil, List.length_take, List.length_drop, cells_int, cells_bool, cells_agg, cells_sl, cells_clo, cells_und, wcs_len, List.length_replicate, List.length_set]; omega)) only [go_sem, simprocAttr]
    refine wcall (c50 b hs) ?_
    cases hc : checkB b with
    | false => simp -failIfUnchanged (disch := first | omega | (simp only [List.length_map, List.length_append, List.length_cons, List.length_nil, List.length_take, List.length_drop, cells_int, cells_bool, cells_agg, cells_sl, cells_clo, cells_und, wcs_len, List.length_replicate, List.length_set]; done) | (simp only [List.length_map, List.length_append, List.length_cons, List.length_nil, List.length_take, List.length_drop, cells_int, cells_bool, cells_agg, cells_sl, cells_clo, cells_und, wcs_len, List.length_replicate, List.length_set]; omega)) only [go_sem, simprocAttr]
    | true =>
      have hv := val_of_check hc
      have hall := allN_le hv
      have hcl := hv.hc
      simp -failIfUnchanged (disch := first | omega | (simp only [List.length_map, List.length_append, List.length_cons, List.length_nil, List.length_take, List.length_drop, cells_int, cells_bool, cells_agg, cells_sl, cells_clo, cells_und, wcs_len, List.length_replicate, List.length_set]; done) | (simp only [List.length_map, List.length_append, List.length_cons, List.length_nil, List.length_take, List.length_drop, cells_int, cells_bool, cells_agg, cells_sl, cells_clo, cells_und, wcs_len, List.length_replicate, List.length_set]; omega)) only [go_sem, simprocAttr]
      refine wp_loop' Nat (fun i => ⟨[(1, .ptr 1 0), (3, .int (allN b ^ i : Nat)), (4, .int i)], [(1, ⟨[.int b.base, .int b.places, .sl 1 (b.cords.map SS) .sh, SS b.top], false⟩)], [], none⟩) (fun i => i ≤ max 1 b.cords.length ∧ allN b ^ i ≤ 1300 ∧ ∀ j, j < i → decide (1300 < allN b ^ (j + 1)) = false) (fun i => max 1 b.cords.length - i) 0 ⟨by simp, by simp, by simp⟩ (by simp -failIfUnchanged (disch := first | omega | (simp only [List.length_map, List.length_append, List.length_cons, List.length_nil, List.length_take, List.length_drop, cells_int, cells_bool, cells_agg, cells_sl, cells_clo, cells_und, wcs_len, List.length_replicate, List.length_set]; done) | (simp only [List.length_map, List.length_append, List.length_cons, List.length_nil, List.length_take, List.length_drop, cells_int, cells_bool, cells_agg, cells_sl, cells_clo, cells_und, wcs_len, List.length_replicate, List.length_set]; omega)) only [go_sem, simprocAttr]; try simp) ?_
      rintro i ⟨hi, hn, hpre⟩
      simp -failIfUnchanged (disch := first | omega | (simp only [List.length_map, List.length_append, List.length_cons, List.length_nil, List.length_take, List.length_drop, cells_int, cells_bool, cells_agg, cells_sl, cells_clo, cells_und, wcs_len, List.length_replicate, List.length_set]; done) | (simp only [List.length_map, List.length_append, List.length_cons, List.length_nil, List.length_take, List.length_drop, cells_int, cells_bool, cells_agg, cells_sl, cells_clo, cells_und, wcs_len, List.length_replicate, List.length_set]; omega)) only [go_sem, simprocAttr]
      refine wcond_dec (fun h5 => ?_) (fun h5 => ?_)
      · have hlt : i < max 1 b.cords.length := by omega
        have hpow : allN b ^ (i + 1) = allN b ^ i * allN b := Nat.pow_succ ..
        have hmul : allN b ^ i * allN b ≤ 1300 * 10000 := Nat.mul_le_mul hn hall
        have hcast : ((allN b ^ i : Nat) : Int) * (allN b : Int) = ((allN b ^ (i + 1) : Nat) : Int) := by rw [hpow, Int.natCast_mul]
        have hy : 1300 < allN b ^ (i + 1) → wideP b = true := fun h => List.any_eq_true.2 ⟨i, by simpa using hlt, by simpa using h⟩
        have e3 : w64 (((allN b ^ i : Nat) : Int) * (allN b : Int)) = ((allN b ^ (i + 1) : Nat) : Int) := by
          rw [hcast]
          exact w64_id (by omega)
        simp -failIfUnchanged (disch := first | omega | (simp only [List.length_map, List.length_append, List.length_cons, List.length_nil, List.length_take, List.length_drop, cells_int, cells_bool, cells_agg, cells_sl, cells_clo, cells_und, wcs_len, List.length_replicate, List.length_set]; done) | (simp only [List.length_map, List.length_append, List.length_cons, List.length_nil, List.length_take, List.length_drop, cells_int, cells_bool, cells_agg, cells_sl, cells_clo, cells_und, wcs_len, List.length_replicate, List.length_set]; omega)) only [go_sem, simprocAttr]
        refine wcall (c41 b hv) ?_
        generalize hM : allN b ^ (i + 1) = M at *
        generalize hN : allN b ^ i = N at *
        simp -failIfUnchanged (disch := first | omega | (simp only [List.length_map, List.length_append, List.length_cons, List.length_nil, List.length_take, List.length_drop, cells_int, cells_bool, cells_agg, cells_sl, cells_clo, cells_und, wcs_len, List.length_replicate, List.length_set]; done) | (simp only [List.length_map, List.length_append, List.length_cons, List.length_nil, List.length_take, List.length_drop, cells_int, cells_bool, cells_agg, cells_sl, cells_clo, cells_und, wcs_len, List.length_replicate, List.length_set]; omega)) only [go_sem, simprocAttr, e3]
        refine wcond_dec (fun h8 => ?_) (fun h8 => ?_)
        · simp -failIfUnchanged (disch := first | omega | (simp only [List.length_map, List.length_append, List.length_cons, List.length_nil, List.length_take, List.length_drop, cells_int, cells_bool, cells_agg, cells_sl, cells_clo, cells_und, wcs_len, List.length_replicate, List.length_set]; done) | (simp only [List.length_map, List.length_append, List.length_cons, List.length_nil, List.length_take, List.length_drop, cells_int, cells_bool, cells_agg, cells_sl, cells_clo, cells_und, wcs_len, List.length_replicate, List.length_set]; omega)) only [go_sem, simprocAttr]
          simp [hy (by omega)]
        · simp -failIfUnchanged (disch := first | omega | (simp only [List.length_map, List.length_append, List.length_cons, List.length_nil, List.length_take, List.length_drop, cells_int, cells_bool, cells_agg, cells_sl, cells_clo, cells_und, wcs_len, List.length_replicate, List.length_set]; done) | (simp only [List.length_map, List.length_append, List.length_cons, List.length_nil, List.length_take, List.length_drop, cells_int, cells_bool, cells_agg, cells_sl, cells_clo, cells_und, wcs_len, List.length_replicate, List.length_set]; omega)) only [go_sem, simprocAttr]
          refine ⟨i + 1, ⟨by omega, by omega, fun j hj => ?_⟩, by dsimp only; omega, ?_⟩
          · rcases Nat.lt_or_ge j i with hj2 | hj2
            · exact hpre j hj2
            · have : j = i := by omega
              subst this
              rw [hM]
              simp
              omega
          · dsimp only
            rw [hM]
            simp -failIfUnchanged (disch := first | omega | (simp only [List.length_map, List.length_append, List.length_cons, List.length_nil, List.length_take, List.length_drop, cells_int, cells_bool, cells_agg, cells_sl, cells_clo, cells_und, wcs_len, List.length_replicate, List.length_set]; done) | (simp only [List.length_map, List.length_append, List.length_cons, List.length_nil, List.length_take, List.length_drop, cells_int, cells_bool, cells_agg, cells_sl, cells_clo, cells_und, wcs_len, List.length_replicate, List.length_set]; omega)) only [go_sem, simprocAttr]
            try simp
      · have e : i = max 1 b.cords.length := by omega
        subst e
        simp -failIfUnchanged (disch := first | omega | (simp only [List.length_map, List.length_append, List.length_cons, List.length_nil, List.length_take, List.length_drop, cells_int, cells_bool, cells_agg, cells_sl, cells_clo, cells_und, wcs_len, List.length_replicate, List.length_set]; done) | (simp only [List.length_map, List.length_append, List.length_cons, List.length_nil, List.length_take, List.length_drop, cells_int, cells_bool, cells_agg, cells_sl, cells_clo, cells_und, wcs_len, List.length_replicate, List.length_set]; omega)) only [go_sem, simprocAttr]
        have : wideP b = false := List.any_eq_false.2 fun j hj => by rw [hpre j (by simpa using hj)]; simp
        simp [this]

theorem wide_pow {b : Bk} (h : wideP b = false) (h0 : 0 < allN b) : allN b ^ b.cords.length ≤ 1300 := by
  unfold wideP at h
  rw [List.any_eq_false] at h
  have h1 := h (max 1 b.cords.length - 1) (by simp; omega)
  rw [show max 1 b.cords.length - 1 + 1 = max 1 b.cords.length by omega] at h1
  have h2 : allN b ^ b.cords.length ≤ allN b ^ max 1 b.cords.length := Nat.pow_le_pow_right h0 (by omega)
  simp at h1
  omega

theorem tup_len (N : Nat) : ∀ m, (tup m N).length = N ^ m
  | 0 => rfl
  | m + 1 => by
    have : (tup (m + 1) N).length = sumF (List.range N) fun _ => (tup m N).length := by
      rw [tup, List.length_flatMap]
      simp [sumF]
    rw [this, tup_len N m]
    have e : (sumF (List.range N) fun _ => N ^ m) = (sumF (List.range N) fun _ => 1) * N ^ m := by
      generalize List.range N = l
      induction l with
      | nil => simp [sumF_nil]
      | cons a r ih => rw [sumF_cons, sumF_cons, ih, Nat.add_mul, Nat.one_mul]
    rw [e, sumF_len, List.length_range, Nat.pow_succ, Nat.mul_comm]

abbrev frNs (b : Bk) : List (List Nat) := sumsN b true b.cords.length []

theorem fr_count (b : Bk) : (frNs b).length ≤ allN b ^ b.cords.length := by
  have e1 : (frNs b).length = sumF (frNs b) fun _ => 1 := (sumF_len _).symm
  rw [e1, sumF_sumsN]
  refine Nat.le_trans (sumF_le (g := fun _ => 1) fun t _ => ?_) ?_
  · split <;> omega
  · rw [sumF_len, tup_len]
    exact Nat.le_refl _

theorem fr_mem {b : Bk} {l : List Nat} (h : l ∈ frNs b) : l.length = b.cords.length + 1 ∧ ∀ x ∈ l, x < allN b := by
  have := sumsN_mem b true b.cords.length [] l (by simp) h
  simpa using this

theorem fr_some {b : Bk} (h0 : 0 < allN b) : ∀ (k : Nat) (first : List Nat), first.sum = 0 → ∃ l, l ∈ sumsN b true k first
  | 0, first, h => by
    unfold sumsN
    rw [if_pos (by simp [h, h0])]
    exact ⟨_, List.mem_singleton.2 rfl⟩
  | k + 1, first, h => by
    obtain ⟨l, hl⟩ := fr_some h0 k (first ++ [0]) (by simpa using h)
    refine ⟨l, ?_⟩
    unfold sumsN
    exact List.mem_flatMap.2 ⟨0, List.mem_filter.2 ⟨by simpa using h0, by simp [isN]⟩, hl⟩

def minC (b : Bk) (L : List (List Nat)) (m : Nat) : Int := (L.take m).foldl (fun a l => min a (costN b l)) (costN b (L[0]?.getD default))
def leastB (b : Bk) : Int := minC b (frNs b) (frNs b).length
def retL (b : Bk) (m : Nat) : List (List Nat) := ((frNs b).take m).filter fun l => decide (costN b l = leastB b)

theorem c72 (b : Bk) (hv : Val b) (hlen : (frNs b).length < 4294967296) : Ctr Try.prog 72 [KB b] (.tup [ISS ((retL b (frNs b).length).map nat), .int (leastB b)]) := by
  refine ctr_of_wp hmix Try.func72 m72 rfl ?_
  unfold v72
  have hbb := hv.hb
  have h0 : 0 < allN b := Nat.pow_pos (by omega)
  obtain ⟨l0, hl0⟩ := fr_some h0 b.cords.length [] rfl
  have hpos : 0 < (frNs b).length := List.length_pos_of_mem hl0
  have hmem := @fr_mem b
  have hS : sumsF b true b.cords.length [] = (frNs b).map nat := sumsF_eq b true _ _
  simp -failIfUnchanged (disch := first | omega | (simp only [List.length_map, List.length_append, List.length_cons, List.length_nil, List.length_take, List.length_drop, cells_int, cells_bool, cells_agg, cells_sl, cells_clo, cells_und, wcs_len, List.length_replicate, List.length_set]; done) | (simp only [List.length_map, List.length_append, List.length_cons, List.length_nil, List.length_take, List.length_drop, cells_int, cells_bool, cells_agg, cells_sl, cells_clo, cells_und, wcs_len, List.length_replicate, List.length_set]; omega)) only [go_sem, simprocAttr]
  refine wcall (c68 b hv true b.cords.length [] (by simp) (by simp) (by rw [hS]; simpa using hlen)) ?_
  rw [hS]
  have hret : ∀ i, i < (frNs b).length → retL b (i + 1) = retL b i ++ if costN b ((frNs b)[i]?.getD default) = leastB b then [(frNs b)[i]?.getD default] else [] := by
    intro i hi
    unfold retL
    rw [take_snoc hi, List.filter_append]
    congr 1
    by_cases h : costN b ((frNs b)[i]?.getD default) = leastB b
    · rw [if_pos h]; simp [h]
    · rw [if_neg h]; simp [h]
  have hminS : ∀ i, i < (frNs b).length → minC b (frNs b) (i + 1) = min (minC b (frNs b) i) (costN b ((frNs b)[i]?.getD default)) := by
    intro i hi
    unfold minC
    rw [take_snoc hi, List.foldl_append]
    rfl
  have hmin0 : minC b (frNs b) 0 = costN b ((frNs b)[0]?.getD default) := by simp [minC]
  have hlast : minC b (frNs b) (frNs b).length = leastB b := rfl
  have hret0 : retL b 0 = [] := by simp [retL]
  have hretl : ∀ i, (retL b i).length ≤ (frNs b).length := fun i => by
    unfold retL
    have := List.length_filter_le (fun l => decide (costN b l = leastB b)) ((frNs b).take i)
    rw [List.length_take] at this
    omega
  generalize hL : frNs b = L at *
  obtain ⟨x0, hx0⟩ : ∃ x, L[0]? = some x := ⟨L[0], List.getElem?_eq_getElem hpos⟩
  have e00 : L[0]?.getD default = x0 := by rw [hx0]; rfl
  have e01 : (L.map nat)[0]?.getD default = nat x0 := by simp [hx0]
  have hxm := hmem (List.mem_of_getElem? hx0)
  rw [e00] at hmin0
  simp -failIfUnchanged (disch := first | omega | (simp only [List.length_map, List.length_append, List.length_cons, List.length_nil, List.length_take, List.length_drop, cells_int, cells_bool, cells_agg, cells_sl, cells_clo, cells_und, wcs_len, List.length_replicate, List.length_set]; done) | (simp only [List.length_map, List.length_append, List.length_cons, List.length_nil, List.length_take, List.length_drop, cells_int, cells_bool, cells_agg, cells_sl, cells_clo, cells_und, wcs_len, List.length_replicate, List.length_set]; omega)) only [go_sem, simprocAttr, e01]
  refine wcall (c107 b hv x0 hxm.1 hxm.2) ?_
  simp -failIfUnchanged (disch := first | omega | (simp only [List.length_map, List.length_append, List.length_cons, List.length_nil, List.length_take, List.length_drop, cells_int, cells_bool, cells_agg, cells_sl, cells_clo, cells_und, wcs_len, List.length_replicate, List.length_set]; done) | (simp only [List.length_map, List.length_append, List.length_cons, List.length_nil, List.length_take, List.length_drop, cells_int, cells_bool, cells_agg, cells_sl, cells_clo, cells_und, wcs_len, List.length_replicate, List.length_set]; omega)) only [go_sem, simprocAttr]
  refine wp_loop' Nat (fun i => ⟨[(1, .ptr 1 0), (4, ISS (L.map nat)), (5, .int (minC b L i)), (6, .int i)], [(1, ⟨[.int b.base, .int b.places, .sl 1 (b.cords.map SS) .sh, SS b.top], false⟩)], [], none⟩) (fun i => i ≤ L.length) (fun i => L.length - i) 0 (by simp) (by rw [hmin0]; simp -failIfUnchanged (disch := first | omega | (simp only [List.length_map, List.length_append, List.length_cons, List.length_nil, List.length_take, List.length_drop, cells_int, cells_bool, cells_agg, cells_sl, cells_clo, cells_und, wcs_len, List.length_replicate, List.length_set]; done) | (simp only [List.length_map, List.length_append, List.length_cons, List.length_nil, List.length_take, List.length_drop, cells_int, cells_bool, cells_agg, cells_sl, cells_clo, cells_und, wcs_len, List.length_replicate, List.length_set]; omega)) only [go_sem, simprocAttr]; try simp) ?_
  intro i hi
  simp -failIfUnchanged (disch := first | omega | (simp only [List.length_map, List.length_append, List.length_cons, List.length_nil, List.length_take, List.length_drop, cells_int, cells_bool, cells_agg, cells_sl, cells_clo, cells_und, wcs_len, List.length_replicate, List.length_set]; done) | (simp only [List.length_map, List.length_append, List.length_cons, List.length_nil, List.length_take, List.length_drop, cells_int, cells_bool, cells_agg, cells_sl, cells_clo, cells_und, wcs_len, List.length_replicate, List.length_set]; omega)) only [go_sem, simprocAttr]
  refine wcond_dec (fun h1 => ?_) (fun h1 => ?_)
  · have hlt : i < L.length := by omega
    obtain ⟨l, hl⟩ : ∃ l, L[i]? = some l := ⟨L[i], List.getElem?_eq_getElem hlt⟩
    have e0 : L[i]?.getD default = l := by rw [hl]; rfl
    have e1 : (L.map nat)[i]?.getD default = nat l := by simp [hl]
    have hlm := hmem (List.mem_of_getElem? hl)
    simp -failIfUnchanged (disch := first | omega | (simp only [List.length_map, List.length_append, List.length_cons, List.length_nil, List.length_take, List.length_drop, cells_int, cells_bool, cells_agg, cells_sl, cells_clo, cells_und, wcs_len, List.length_replicate, List.length_set]; done) | (simp only [List.length_map, List.length_append, List.length_cons, List.length_nil, List.length_take, List.length_drop, cells_int, cells_bool, cells_agg, cells_sl, cells_clo, cells_und, wcs_len, List.length_replicate, List.length_set]; omega)) only [go_sem, simprocAttr, e1]
    refine wcall (c107 b hv l hlm.1 hlm.2) ?_
    simp -failIfUnchanged (disch := first | omega | (simp only [List.length_map, List.length_append, List.length_cons, List.length_nil, List.length_take, List.length_drop, cells_int, cells_bool, cells_agg, cells_sl, cells_clo, cells_und, wcs_len, List.length_replicate, List.length_set]; done) | (simp only [List.length_map, List.length_append, List.length_cons, List.length_nil, List.length_take, List.length_drop, cells_int, cells_bool, cells_agg, cells_sl, cells_clo, cells_und, wcs_len, List.length_replicate, List.length_set]; omega)) only [go_sem, simprocAttr]
    refine ⟨i + 1, by omega, by dsimp only; omega, ?_⟩
    dsimp only
    rw [hminS i hlt, e0]
    simp -failIfUnchanged (disch := first | omega | (simp only [List.length_map, List.length_append, List.length_cons, List.length_nil, List.length_take, List.length_drop, cells_int, cells_bool, cells_agg, cells_sl, cells_clo, cells_und, wcs_len, List.length_replicate, List.length_set]; done) | (simp only [List.length_map, List.length_append, List.length_cons, List.length_nil, List.length_take, List.length_drop, cells_int, cells_bool, cells_agg, cells_sl, cells_clo, cells_und, wcs_len, List.length_replicate, List.length_set]; omega)) only [go_sem, simprocAttr]
    try simp
  · have e : i = L.length := by omega
    subst e
    rw [hlast]
    simp -failIfUnchanged (disch := first | omega | (simp only [List.length_map, List.length_append, List.length_cons, List.length_nil, List.length_take, List.length_drop, cells_int, cells_bool, cells_agg, cells_sl, cells_clo, cells_und, wcs_len, List.length_replicate, List.length_set]; done) | (simp only [List.length_map, List.length_append, List.length_cons, List.length_nil, List.length_take, List.length_drop, cells_int, cells_bool, cells_agg, cells_sl, cells_clo, cells_und, wcs_len, List.length_replicate, List.length_set]; omega)) only [go_sem, simprocAttr]
    refine wp_loop' Nat (fun i => ⟨[(1, .ptr 1 0), (4, ISS (L.map nat)), (5, .int (leastB b)), (7, .sl 1 (((retL b i).map nat).map IS) (.own 7)), (8, .int i)], [(1, ⟨[.int b.base, .int b.places, .sl 1 (b.cords.map SS) .sh, SS b.top], false⟩)], [(7, (retL b i).length)], none⟩) (fun i => i ≤ L.length) (fun i => L.length - i) 0 (by simp) (by rw [hret0]; simp -failIfUnchanged (disch := first | omega | (simp only [List.length_map, List.length_append, List.length_cons, List.length_nil, List.length_take, List.length_drop, cells_int, cells_bool, cells_agg, cells_sl, cells_clo, cells_und, wcs_len, List.length_replicate, List.length_set]; done) | (simp only [List.length_map, List.length_append, List.length_cons, List.length_nil, List.length_take, List.length_drop, cells_int, cells_bool, cells_agg, cells_sl, cells_clo, cells_und, wcs_len, List.length_replicate, List.length_set]; omega)) only [go_sem, simprocAttr]; try simp) ?_
    intro i hi
    simp -failIfUnchanged (disch := first | omega | (simp only [List.length_map, List.length_append, List.length_cons, List.length_nil, List.length_take, List.length_drop, cells_int, cells_bool, cells_agg, cells_sl, cells_clo, cells_und, wcs_len, List.length_replicate, List.length_set]; done) | (simp only [List.length_map, List.length_append, List.length_cons, List.length_nil, List.length_take, List.length_drop, cells_int, cells_bool, cells_agg, cells_sl, cells_clo, cells_und, wcs_len, List.length_replicate, List.length_set]; omega)) only [go_sem, simprocAttr]
    refine wcond_dec (fun h1 => ?_) (fun h1 => ?_)
    · have hlt : i < L.length := by omega
      obtain ⟨l, hl⟩ : ∃ l, L[i]? = some l := ⟨L[i], List.getElem?_eq_getElem hlt⟩
      have e0 : L[i]?.getD default = l := by rw [hl]; rfl
      have e1 : (L.map nat)[i]?.getD default = nat l := by simp [hl]
      have hlm := hmem (List.mem_of_getElem? hl)
      have hrl := hretl i
      simp -failIfUnchanged (disch := first | omega | (simp only [List.length_map, List.length_append, List.length_cons, List.length_nil, List.length_take, List.length_drop, cells_int, cells_bool, cells_agg, cells_sl, cells_clo, cells_und, wcs_len, List.length_replicate, List.length_set]; done) | (simp only [List.length_map, List.length_append, List.length_cons, List.length_nil, List.length_take, List.length_drop, cells_int, cells_bool, cells_agg, cells_sl, cells_clo, cells_und, wcs_len, List.length_replicate, List.length_set]; omega)) only [go_sem, simprocAttr, e1]
      refine wcall (c107 b hv l hlm.1 hlm.2) ?_
      simp -failIfUnchanged (disch := first | omega | (simp only [List.length_map, List.length_append, List.length_cons, List.length_nil, List.length_take, List.length_drop, cells_int, cells_bool, cells_agg, cells_sl, cells_clo, cells_und, wcs_len, List.length_replicate, List.length_set]; done) | (simp only [List.length_map, List.length_append, List.length_cons, List.length_nil, List.length_take, List.length_drop, cells_int, cells_bool, cells_agg, cells_sl, cells_clo, cells_und, wcs_len, List.length_replicate, List.length_set]; omega)) only [go_sem, simprocAttr]
      refine wcond_dec (fun h2 => ?_) (fun h2 => ?_)
      · have hr := hret i hlt
        rw [e0, if_pos h2] at hr
        simp -failIfUnchanged (disch := first | omega | (simp only [List.length_map, List.length_append, List.length_cons, List.length_nil, List.length_take, List.length_drop, cells_int, cells_bool, cells_agg, cells_sl, cells_clo, cells_und, wcs_len, List.length_replicate, List.length_set]; done) | (simp only [List.length_map, List.length_append, List.length_cons, List.length_nil, List.length_take, List.length_drop, cells_int, cells_bool, cells_agg, cells_sl, cells_clo, cells_und, wcs_len, List.length_replicate, List.length_set]; omega)) only [go_sem, simprocAttr, e1]
        refine ⟨i + 1, by omega, by dsimp only; omega, ?_⟩
        dsimp only
        rw [hr]
        simp -failIfUnchanged (disch := first | omega | (simp only [List.length_map, List.length_append, List.length_cons, List.length_nil, List.length_take, List.length_drop, cells_int, cells_bool, cells_agg, cells_sl, cells_clo, cells_und, wcs_len, List.length_replicate, List.length_set]; done) | (simp only [List.length_map, List.length_append, List.length_cons, List.length_nil, List.length_take, List.length_drop, cells_int, cells_bool, cells_agg, cells_sl, cells_clo, cells_und, wcs_len, List.length_replicate, List.length_set]; omega)) only [go_sem, simprocAttr]
        try simp
      · have hr := hret i hlt
        rw [e0, if_neg h2, List.append_nil] at hr
        simp -failIfUnchanged (disch := first | omega | (simp only [List.length_map, List.length_append, List.length_cons, List.length_nil, List.length_take, List.length_drop, cells_int, cells_bool, cells_agg, cells_sl, cells_clo, cells_und, wcs_len, List.length_replicate, List.length_set]; done) | (simp only [List.length_map, List.length_append, List.length_cons, List.length_nil, List.length_take, List.length_drop, cells_int, cells_bool, cells_agg, cells_sl, cells_clo, cells_und, wcs_len, List.length_replicate, List.length_set]; omega)) only [go_sem, simprocAttr]
        refine ⟨i + 1, by omega, by dsimp only; omega, ?_⟩
        dsimp only
        rw [hr]
        simp -failIfUnchanged (disch := first | omega | (simp only [List.length_map, List.length_append, List.length_cons, List.length_nil, List.length_take, List.length_drop, cells_int, cells_bool, cells_agg, cells_sl, cells_clo, cells_und, wcs_len, List.length_replicate, List.length_set]; done) | (simp only [List.length_map, List.length_append, List.length_cons, List.length_nil, List.length_take, List.length_drop, cells_int, cells_bool, cells_agg, cells_sl, cells_clo, cells_und, wcs_len, List.length_replicate, List.length_set]; omega)) only [go_sem, simprocAttr]
        try simp
    · have e : i = L.length := by omega
      subst e
      simp -failIfUnchanged (disch := first | omega | (simp only [List.length_map, List.length_append, List.length_cons, List.length_nil, List.length_take, List.length_drop, cells_int, cells_bool, cells_agg, cells_sl, cells_clo, cells_und, wcs_len, List.length_replicate, List.length_set]; done) | (simp only [List.length_map, List.length_append, List.length_cons, List.length_nil, List.length_take, List.length_drop, cells_int, cells_bool, cells_agg, cells_sl, cells_clo, cells_und, wcs_len, List.length_replicate, List.length_set]; omega)) only [go_sem, simprocAttr]

theorem c24 (b : Bk) (hs : Small b) (hlen : checkB b = true → (frNs b).length < 4294967296) : Ctr Try.prog 24 [KB b] (if checkB b then .tup [.int (leastB b), .int 0] else .tup [.int 0, .int 110]) := by
  refine ctr_of_wp hmix Try.func24 m24 rfl ?_
  unfold v24
  simp -failIfUnchanged (disch := first | omega | (simp only [List.length_map, List.length_append, List.length_cons, List.length_nil, List.length_take, List.length_drop, cells_int, cells_bool, cells_agg, cells_sl, cells_clo, cells_und, wcs_len, List.length_replicate, List.length_set]; done) | (simp only [List.length_map, List.length_append, List.length_cons, List.length_nil, List.length_take, List.length_drop, cells_int, cells_bool, cells_agg, cells_sl, cells_clo, cells_und, wcs_len, List.length_replicate, List.length_set]; omega)) only [go_sem, simprocAttr]
  refine wcall (c50 b hs) ?_
  cases hc : checkB b with
  | false => simp -failIfUnchanged (disch := first | omega | (simp only [List.length_map, List.length_append, List.length_cons, List.length_nil, List.length_take, List.length_drop, cells_int, cells_bool, cells_agg, cells_sl, cells_clo, cells_und, wcs_len, List.length_replicate, List.length_set]; done) | (simp only [List.length_map, List.length_append, List.length_cons, List.length_nil, List.length_take, List.length_drop, cells_int, cells_bool, cells_agg, cells_sl, cells_clo, cells_und, wcs_len, List.length_replicate, List.length_set]; omega)) only [go_sem, simprocAttr]
  | true =>
    simp -failIfUnchanged (disch := first | omega | (simp only [List.length_map, List.length_append, List.length_cons, List.length_nil, List.length_take, List.length_drop, cells_int, cells_bool, cells_agg, cells_sl, cells_clo, cells_und, wcs_len, List.length_replicate, List.length_set]; done) | (simp only [List.length_map, List.length_append, List.length_cons, List.length_nil, List.length_take, List.length_drop, cells_int, cells_bool, cells_agg, cells_sl, cells_clo, cells_und, wcs_len, List.length_replicate, List.length_set]; omega)) only [go_sem, simprocAttr]
    refine wcall (c72 b (val_of_check hc) (hlen hc)) ?_
    simp -failIfUnchanged (disch := first | omega | (simp only [List.length_map, List.length_append, List.length_cons, List.length_nil, List.length_take, List.length_drop, cells_int, cells_bool, cells_agg, cells_sl, cells_clo, cells_und, wcs_len, List.length_replicate, List.length_set]; done) | (simp only [List.length_map, List.length_append, List.length_cons, List.length_nil, List.length_take, List.length_drop, cells_int, cells_bool, cells_agg, cells_sl, cells_clo, cells_und, wcs_len, List.length_replicate, List.length_set]; omega)) only [go_sem, simprocAttr]

end Go.Proofs.Ytkkiipjfbebipaa

/- The reference's Blame; KnotsRetie. -/
set_option linter.unusedSimpArgs false
set_option linter.unusedVariables false
set_option linter.unnecessarySimpa false
namespace Go.Proofs.Ytkkiipjfbebipaa
open Go Go.V

theorem allC_at' {b : Bk} (c : Nat) (h : c ≤ b.cords.length) : (allC b)[c]?.getD default = cordAt b c := by
  unfold allC cordAt
  split
  · next e => subst e; simp
  · next e =>
    rw [List.getElem?_append_left (by omega)]

abbrev kn1 (b : Bk) (c : Nat) (l : List Nat) : Int := isum b.places.toNat fun p => costL (cordSp b c p) (dgN b l c p : Nat)
abbrev retA (b : Bk) : List (List Nat) := retL b (frNs b).length
def blR (b : Bk) (c : Nat) : Bool := (retA b).any fun l => decide (0 < kn1 b c l)
def blL (b : Bk) (k : Nat) : List Int := ((List.range k).filter (blR b)).map fun n : Nat => (n : Int)

def blameV (b : Bk) : List Int × Int := if checkB b then if leastB b = 0 then ([], 3) else (blL b (b.cords.length + 1), 0) else ([], 110)

theorem ret_mem {b : Bk} {l : List Nat} (h : l ∈ retA b) : l ∈ frNs b ∧ costN b l = leastB b := by
  unfold retA retL at h
  rw [List.take_length] at h
  have := List.mem_filter.1 h
  simpa using this

theorem c26 (b : Bk) (hs : Small b) (hlen : checkB b = true → (frNs b).length < 4294967296) : Ctr Try.prog 26 [KB b] (.tup [IS (blameV b).1, .int (blameV b).2]) := by
  refine ctr_of_wp hmix Try.func26 m26 rfl ?_
  unfold v26 blameV
  simp -failIfUnchanged (disch := first | omega | (simp only [List.length_map, List.length_append, List.length_cons, List.length_nil, List.length_take, List.length_drop, cells_int, cells_bool, cells_agg, cells_sl, cells_clo, cells_und, wcs_len, List.length_replicate, List.length_set]; done) | (simp only [List.length_map, List.length_append, List.length_cons, List.length_nil, List.length_take, List.length_drop, cells_int, cells_bool, cells_agg, cells_sl, cells_clo, cells_und, wcs_len, List.length_replicate, List.length_set]; omega)) only [go_sem, simprocAttr]
  refine wcall (c50 b hs) ?_
  cases hc : checkB b with
  | false => simp -failIfUnchanged (disch := first | omega | (simp only [List.length_map, List.length_append, List.length_cons, List.length_nil, List.length_take, List.length_drop, cells_int, cells_bool, cells_agg, cells_sl, cells_clo, cells_und, wcs_len, List.length_replicate, List.length_set]; done) | (simp only [List.length_map, List.length_append, List.length_cons, List.length_nil, List.length_take, List.length_drop, cells_int, cells_bool, cells_agg, cells_sl, cells_clo, cells_und, wcs_len, List.length_replicate, List.length_set]; omega)) only [go_sem, simprocAttr]; rfl
  | true =>
    have hv := val_of_check hc
    have hcl := hv.hc
    have hall := allN_le hv
    simp -failIfUnchanged (disch := first | omega | (simp only [List.length_map, List.length_append, List.length_cons, List.length_nil, List.length_take, List.length_drop, cells_int, cells_bool, cells_agg, cells_sl, cells_clo, cells_und, wcs_len, List.length_replicate, List.length_set]; done) | (simp only [List.length_map, List.length_append, List.length_cons, List.length_nil, List.length_take, List.length_drop, cells_int, cells_bool, cells_agg, cells_sl, cells_clo, cells_und, wcs_len, List.length_replicate, List.length_set]; omega)) only [go_sem, simprocAttr]
    refine wcall (c72 b hv (hlen hc)) ?_
    simp -failIfUnchanged (disch := first | omega | (simp only [List.length_map, List.length_append, List.length_cons, List.length_nil, List.length_take, List.length_drop, cells_int, cells_bool, cells_agg, cells_sl, cells_clo, cells_und, wcs_len, List.length_replicate, List.length_set]; done) | (simp only [List.length_map, List.length_append, List.length_cons, List.length_nil, List.length_take, List.length_drop, cells_int, cells_bool, cells_agg, cells_sl, cells_clo, cells_und, wcs_len, List.length_replicate, List.length_set]; omega)) only [go_sem, simprocAttr]
    refine wcond_dec (fun h0 => ?_) (fun h0 => ?_)
    · simp -failIfUnchanged (disch := first | omega | (simp only [List.length_map, List.length_append, List.length_cons, List.length_nil, List.length_take, List.length_drop, cells_int, cells_bool, cells_agg, cells_sl, cells_clo, cells_und, wcs_len, List.length_replicate, List.length_set]; done) | (simp only [List.length_map, List.length_append, List.length_cons, List.length_nil, List.length_take, List.length_drop, cells_int, cells_bool, cells_agg, cells_sl, cells_clo, cells_und, wcs_len, List.length_replicate, List.length_set]; omega)) only [go_sem, simprocAttr, h0]
      rfl
    · simp -failIfUnchanged (disch := first | omega | (simp only [List.length_map, List.length_append, List.length_cons, List.length_nil, List.length_take, List.length_drop, cells_int, cells_bool, cells_agg, cells_sl, cells_clo, cells_und, wcs_len, List.length_replicate, List.length_set]; done) | (simp only [List.length_map, List.length_append, List.length_cons, List.length_nil, List.length_take, List.length_drop, cells_int, cells_bool, cells_agg, cells_sl, cells_clo, cells_und, wcs_len, List.length_replicate, List.length_set]; omega)) only [go_sem, simprocAttr, h0]
      have hmem : ∀ {l : List Nat}, l ∈ retA b → l.length = b.cords.length + 1 ∧ ∀ x ∈ l, x < allN b := fun h => fr_mem (ret_mem h).1
      have hRl : (retA b).length < 4294967296 := by
        have h1 := hlen hc
        have : (retA b).length ≤ (frNs b).length := by
          unfold retA retL
          rw [List.take_length]
          exact List.length_filter_le _ _
        omega
      have hbl : ∀ c, blL b (c + 1) = blL b c ++ if (retA b).any (fun l => decide (0 < kn1 b c l)) then [(c : Int)] else [] := by
        intro c
        unfold blL
        rw [List.range_succ, List.filter_append, List.map_append]
        congr 1
        by_cases h : blR b c = true
        · rw [List.filter_cons_of_pos (by simpa using h)]
          have h' : (retA b).any (fun l => decide (0 < kn1 b c l)) = true := h
          rw [if_pos h']
          simp
        · rw [List.filter_cons_of_neg (by simpa using h)]
          have h' : ¬ (retA b).any (fun l => decide (0 < kn1 b c l)) = true := h
          rw [if_neg h']
          simp
      have hbl0 : blL b 0 = [] := by simp [blL]
      have hbll : ∀ c, (blL b c).length ≤ c := fun c => by
        unfold blL
        rw [List.length_map]
        have := List.length_filter_le (blR b) (List.range c)
        simpa using this
      generalize hL : retA b = L at *
      refine wp_loop' Nat (fun c => ⟨[(1, .ptr 1 0), (5, ISS (L.map nat)), (7, .sl 1 ((blL b c).map .int) (.own 7)), (8, .int c)], [(1, ⟨[.int b.base, .int b.places, .sl 1 (b.cords.map SS) .sh, SS b.top], false⟩)], [(7, (blL b c).length)], none⟩) (fun c => c ≤ b.cords.length + 1) (fun c => b.cords.length + 1 - c) 0 (by simp) (by rw [hbl0]; simp -failIfUnchanged (disch := first | omega | (simp only [List.length_map, List.length_append, List.length_cons, List.length_nil, List.length_take, List.length_drop, cells_int, cells_bool, cells_agg, cells_sl, cells_clo, cells_und, wcs_len, List.length_replicate, List.length_set]; done) | (simp only [List.length_map, List.length_append, List.length_cons, List.length_nil, List.length_take, List.length_drop, cells_int, cells_bool, cells_agg, cells_sl, cells_clo, cells_und, wcs_len, List.length_replicate, List.length_set]; omega)) only [go_sem, simprocAttr]; try simp [← hL]) ?_
      intro c hcc
      have hbc := hbll c
      simp -failIfUnchanged (disch := first | omega | (simp only [List.length_map, List.length_append, List.length_cons, List.length_nil, List.length_take, List.length_drop, cells_int, cells_bool, cells_agg, cells_sl, cells_clo, cells_und, wcs_len, List.length_replicate, List.length_set]; done) | (simp only [List.length_map, List.length_append, List.length_cons, List.length_nil, List.length_take, List.length_drop, cells_int, cells_bool, cells_agg, cells_sl, cells_clo, cells_und, wcs_len, List.length_replicate, List.length_set]; omega)) only [go_sem, simprocAttr]
      refine wcond_dec (fun h1 => ?_) (fun h1 => ?_)
      · have hclt : c ≤ b.cords.length := by omega
        simp -failIfUnchanged (disch := first | omega | (simp only [List.length_map, List.length_append, List.length_cons, List.length_nil, List.length_take, List.length_drop, cells_int, cells_bool, cells_agg, cells_sl, cells_clo, cells_und, wcs_len, List.length_replicate, List.length_set]; done) | (simp only [List.length_map, List.length_append, List.length_cons, List.length_nil, List.length_take, List.length_drop, cells_int, cells_bool, cells_agg, cells_sl, cells_clo, cells_und, wcs_len, List.length_replicate, List.length_set]; omega)) only [go_sem, simprocAttr]
        refine wp_loop' Nat (fun i => ⟨[(1, .ptr 1 0), (5, ISS (L.map nat)), (7, .sl 1 ((blL b c).map .int) (.own 7)), (8, .int c), (9, .bool ((L.take i).any fun l => decide (0 < kn1 b c l))), (10, .int i)], [(1, ⟨[.int b.base, .int b.places, .sl 1 (b.cords.map SS) .sh, SS b.top], false⟩)], [(7, (blL b c).length)], none⟩) (fun i => i ≤ L.length) (fun i => L.length - i) 0 (by simp) (by simp -failIfUnchanged (disch := first | omega | (simp only [List.length_map, List.length_append, List.length_cons, List.length_nil, List.length_take, List.length_drop, cells_int, cells_bool, cells_agg, cells_sl, cells_clo, cells_und, wcs_len, List.length_replicate, List.length_set]; done) | (simp only [List.length_map, List.length_append, List.length_cons, List.length_nil, List.length_take, List.length_drop, cells_int, cells_bool, cells_agg, cells_sl, cells_clo, cells_und, wcs_len, List.length_replicate, List.length_set]; omega)) only [go_sem, simprocAttr]; try simp) ?_
        intro i hi
        simp -failIfUnchanged (disch := first | omega | (simp only [List.length_map, List.length_append, List.length_cons, List.length_nil, List.length_take, List.length_drop, cells_int, cells_bool, cells_agg, cells_sl, cells_clo, cells_und, wcs_len, List.length_replicate, List.length_set]; done) | (simp only [List.length_map, List.length_append, List.length_cons, List.length_nil, List.length_take, List.length_drop, cells_int, cells_bool, cells_agg, cells_sl, cells_clo, cells_und, wcs_len, List.length_replicate, List.length_set]; omega)) only [go_sem, simprocAttr]
        refine wcond_dec (fun h2 => ?_) (fun h2 => ?_)
        · have hlt : i < L.length := by omega
          obtain ⟨l, hl⟩ : ∃ l, L[i]? = some l := ⟨L[i], List.getElem?_eq_getElem hlt⟩
          have e0 : L[i]?.getD default = l := by rw [hl]; rfl
          have e1 : (L.map nat)[i]?.getD default = nat l := by simp [hl]
          have hlm := hmem (List.mem_of_getElem? hl)
          have hnl : (nat l).length = b.cords.length + 1 := by rw [List.length_map]; exact hlm.1
          have hxl : l[c]?.getD default < allN b := hlm.2 _ (mem_getD (by omega))
          have hsn : (L.take (i + 1)).any (fun l => decide (0 < kn1 b c l)) = ((L.take i).any (fun l => decide (0 < kn1 b c l)) || decide (0 < kn1 b c l)) := by
            rw [take_snoc hlt, List.any_append, e0]
            simp
          simp -failIfUnchanged (disch := first | omega | (simp only [List.length_map, List.length_append, List.length_cons, List.length_nil, List.length_take, List.length_drop, cells_int, cells_bool, cells_agg, cells_sl, cells_clo, cells_und, wcs_len, List.length_replicate, List.length_set]; done) | (simp only [List.length_map, List.length_append, List.length_cons, List.length_nil, List.length_take, List.length_drop, cells_int, cells_bool, cells_agg, cells_sl, cells_clo, cells_und, wcs_len, List.length_replicate, List.length_set]; omega)) only [go_sem, simprocAttr]
          cases ha : (L.take i).any fun l => decide (0 < kn1 b c l) with
          | true =>
            rw [ha, Bool.true_or] at hsn
            simp -failIfUnchanged (disch := first | omega | (simp only [List.length_map, List.length_append, List.length_cons, List.length_nil, List.length_take, List.length_drop, cells_int, cells_bool, cells_agg, cells_sl, cells_clo, cells_und, wcs_len, List.length_replicate, List.length_set]; done) | (simp only [List.length_map, List.length_append, List.length_cons, List.length_nil, List.length_take, List.length_drop, cells_int, cells_bool, cells_agg, cells_sl, cells_clo, cells_und, wcs_len, List.length_replicate, List.length_set]; omega)) only [go_sem, simprocAttr]
            refine ⟨i + 1, by omega, by dsimp only; omega, ?_⟩
            dsimp only
            rw [hsn]
            simp -failIfUnchanged (disch := first | omega | (simp only [List.length_map, List.length_append, List.length_cons, List.length_nil, List.length_take, List.length_drop, cells_int, cells_bool, cells_agg, cells_sl, cells_clo, cells_und, wcs_len, List.length_replicate, List.length_set]; done) | (simp only [List.length_map, List.length_append, List.length_cons, List.length_nil, List.length_take, List.length_drop, cells_int, cells_bool, cells_agg, cells_sl, cells_clo, cells_und, wcs_len, List.length_replicate, List.length_set]; omega)) only [go_sem, simprocAttr]
            try simp
          | false =>
            rw [ha, Bool.false_or] at hsn
            simp -failIfUnchanged (disch := first | omega | (simp only [List.length_map, List.length_append, List.length_cons, List.length_nil, List.length_take, List.length_drop, cells_int, cells_bool, cells_agg, cells_sl, cells_clo, cells_und, wcs_len, List.length_replicate, List.length_set]; done) | (simp only [List.length_map, List.length_append, List.length_cons, List.length_nil, List.length_take, List.length_drop, cells_int, cells_bool, cells_agg, cells_sl, cells_clo, cells_und, wcs_len, List.length_replicate, List.length_set]; omega)) only [go_sem, simprocAttr]
            refine wcall (c32 b c hclt) ?_
            simp -failIfUnchanged (disch := first | omega | (simp only [List.length_map, List.length_append, List.length_cons, List.length_nil, List.length_take, List.length_drop, cells_int, cells_bool, cells_agg, cells_sl, cells_clo, cells_und, wcs_len, List.length_replicate, List.length_set]; done) | (simp only [List.length_map, List.length_append, List.length_cons, List.length_nil, List.length_take, List.length_drop, cells_int, cells_bool, cells_agg, cells_sl, cells_clo, cells_und, wcs_len, List.length_replicate, List.length_set]; omega)) only [go_sem, simprocAttr, e1, nat_get]
            refine wcall (c69 b hv (l[c]?.getD default) (by omega)) ?_
            simp -failIfUnchanged (disch := first | omega | (simp only [List.length_map, List.length_append, List.length_cons, List.length_nil, List.length_take, List.length_drop, cells_int, cells_bool, cells_agg, cells_sl, cells_clo, cells_und, wcs_len, List.length_replicate, List.length_set]; done) | (simp only [List.length_map, List.length_append, List.length_cons, List.length_nil, List.length_take, List.length_drop, cells_int, cells_bool, cells_agg, cells_sl, cells_clo, cells_und, wcs_len, List.length_replicate, List.length_set]; omega)) only [go_sem, simprocAttr]
            refine wcall (c75r b hv hclt l) ?_
            simp -failIfUnchanged (disch := first | omega | (simp only [List.length_map, List.length_append, List.length_cons, List.length_nil, List.length_take, List.length_drop, cells_int, cells_bool, cells_agg, cells_sl, cells_clo, cells_und, wcs_len, List.length_replicate, List.length_set]; done) | (simp only [List.length_map, List.length_append, List.length_cons, List.length_nil, List.length_take, List.length_drop, cells_int, cells_bool, cells_agg, cells_sl, cells_clo, cells_und, wcs_len, List.length_replicate, List.length_set]; omega)) only [go_sem, simprocAttr]
            refine ⟨i + 1, by omega, by dsimp only; omega, ?_⟩
            dsimp only
            rw [hsn]
            simp -failIfUnchanged (disch := first | omega | (simp only [List.length_map, List.length_append, List.length_cons, List.length_nil, List.length_take, List.length_drop, cells_int, cells_bool, cells_agg, cells_sl, cells_clo, cells_und, wcs_len, List.length_replicate, List.length_set]; done) | (simp only [List.length_map, List.length_append, List.length_cons, List.length_nil, List.length_take, List.length_drop, cells_int, cells_bool, cells_agg, cells_sl, cells_clo, cells_und, wcs_len, List.length_replicate, List.length_set]; omega)) only [go_sem, simprocAttr]
            try simp
        · have e : i = L.length := by omega
          subst e
          rw [List.take_length]
          have hb := hbl c
          simp -failIfUnchanged (disch := first | omega | (simp only [List.length_map, List.length_append, List.length_cons, List.length_nil, List.length_take, List.length_drop, cells_int, cells_bool, cells_agg, cells_sl, cells_clo, cells_und, wcs_len, List.length_replicate, List.length_set]; done) | (simp only [List.length_map, List.length_append, List.length_cons, List.length_nil, List.length_take, List.length_drop, cells_int, cells_bool, cells_agg, cells_sl, cells_clo, cells_und, wcs_len, List.length_replicate, List.length_set]; omega)) only [go_sem, simprocAttr]
          cases ha : L.any fun l => decide (0 < kn1 b c l) with
          | true =>
            rw [ha, if_pos rfl] at hb
            simp -failIfUnchanged (disch := first | omega | (simp only [List.length_map, List.length_append, List.length_cons, List.length_nil, List.length_take, List.length_drop, cells_int, cells_bool, cells_agg, cells_sl, cells_clo, cells_und, wcs_len, List.length_replicate, List.length_set]; done) | (simp only [List.length_map, List.length_append, List.length_cons, List.length_nil, List.length_take, List.length_drop, cells_int, cells_bool, cells_agg, cells_sl, cells_clo, cells_und, wcs_len, List.length_replicate, List.length_set]; omega)) only [go_sem, simprocAttr]
            refine ⟨c + 1, by omega, by dsimp only; omega, ?_⟩
            dsimp only
            rw [hb]
            simp -failIfUnchanged (disch := first | omega | (simp only [List.length_map, List.length_append, List.length_cons, List.length_nil, List.length_take, List.length_drop, cells_int, cells_bool, cells_agg, cells_sl, cells_clo, cells_und, wcs_len, List.length_replicate, List.length_set]; done) | (simp only [List.length_map, List.length_append, List.length_cons, List.length_nil, List.length_take, List.length_drop, cells_int, cells_bool, cells_agg, cells_sl, cells_clo, cells_und, wcs_len, List.length_replicate, List.length_set]; omega)) only [go_sem, simprocAttr]
            try simp
          | false =>
            rw [ha, if_neg (by simp), List.append_nil] at hb
            simp -failIfUnchanged (disch := first | omega | (simp only [List.length_map, List.length_append, List.length_cons, List.length_nil, List.length_take, List.length_drop, cells_int, cells_bool, cells_agg, cells_sl, cells_clo, cells_und, wcs_len, List.length_replicate, List.length_set]; done) | (simp only [List.length_map, List.length_append, List.length_cons, List.length_nil, List.length_take, List.length_drop, cells_int, cells_bool, cells_agg, cells_sl, cells_clo, cells_und, wcs_len, List.length_replicate, List.length_set]; omega)) only [go_sem, simprocAttr]
            refine ⟨c + 1, by omega, by dsimp only; omega, ?_⟩
            dsimp only
            rw [hb]
            simp -failIfUnchanged (disch := first | omega | (simp only [List.length_map, List.length_append, List.length_cons, List.length_nil, List.length_take, List.length_drop, cells_int, cells_bool, cells_agg, cells_sl, cells_clo, cells_und, wcs_len, List.length_replicate, List.length_set]; done) | (simp only [List.length_map, List.length_append, List.length_cons, List.length_nil, List.length_take, List.length_drop, cells_int, cells_bool, cells_agg, cells_sl, cells_clo, cells_und, wcs_len, List.length_replicate, List.length_set]; omega)) only [go_sem, simprocAttr]
            try simp
      · have e : c = b.cords.length + 1 := by omega
        subst e
        simp -failIfUnchanged (disch := first | omega | (simp only [List.length_map, List.length_append, List.length_cons, List.length_nil, List.length_take, List.length_drop, cells_int, cells_bool, cells_agg, cells_sl, cells_clo, cells_und, wcs_len, List.length_replicate, List.length_set]; done) | (simp only [List.length_map, List.length_append, List.length_cons, List.length_nil, List.length_take, List.length_drop, cells_int, cells_bool, cells_agg, cells_sl, cells_clo, cells_und, wcs_len, List.length_replicate, List.length_set]; omega)) only [go_sem, simprocAttr]

/-! The law. -/
theorem minC_spec (b : Bk) (L : List (List Nat)) : ∀ m, m ≤ L.length → (∀ l ∈ L.take m, minC b L m ≤ costN b l) ∧ (minC b L m = costN b (L[0]?.getD default) ∨ ∃ l ∈ L.take m, costN b l = minC b L m)
  | 0, _ => ⟨by simp, .inl (by simp [minC])⟩
  | m + 1, hm => by
    obtain ⟨h1, h2⟩ := minC_spec b L m (by omega)
    have e : minC b L (m + 1) = min (minC b L m) (costN b (L[m]?.getD default)) := by
      unfold minC
      rw [take_snoc (by omega), List.foldl_append]
      rfl
    rw [e, take_snoc (show m < L.length by omega)]
    generalize L[m]?.getD default = x
    refine ⟨fun l hl => ?_, ?_⟩
    · rcases List.mem_append.1 hl with hl | hl
      · have := h1 l hl; omega
      · simp only [List.mem_singleton] at hl
        subst hl
        omega
    · rcases Int.lt_or_le (costN b x) (minC b L m) with h | h
      · exact .inr ⟨x, by simp, by omega⟩
      · rcases h2 with h2 | ⟨l, hl, h2⟩
        · exact .inl (by omega)
        · exact .inr ⟨l, by simp [hl], by omega⟩

theorem least_spec {b : Bk} (hv : Val b) : (∀ l ∈ frNs b, leastB b ≤ costN b l) ∧ ∃ l ∈ frNs b, costN b l = leastB b := by
  have hbb := hv.hb
  have h0 : 0 < allN b := Nat.pow_pos (by omega)
  obtain ⟨l0, hl0⟩ := fr_some h0 b.cords.length [] rfl
  have hpos : 0 < (frNs b).length := List.length_pos_of_mem hl0
  obtain ⟨h1, h2⟩ := minC_spec b (frNs b) _ (Nat.le_refl _)
  rw [List.take_length] at h1 h2
  refine ⟨h1, ?_⟩
  rcases h2 with h2 | ⟨l, hl, h2⟩
  · exact ⟨_, mem_getD hpos, h2.symm⟩
  · exact ⟨l, hl, h2⟩

theorem least_k {b : Bk} (hv : Val b) : (solveL b yes3 yes2).k = leastB b := by
  obtain ⟨h1, h2⟩ := solveL_k hv yes3 yes2
  obtain ⟨h3, l, hl, h4⟩ := least_spec hv
  have h5 := h1 l hl (allOK_yes b l)
  have h6 := costN_bd hv l
  rcases h2 with h2 | ⟨l', hl', _, h7⟩
  · omega
  · have := h3 l' hl'
    omega

theorem blame_iff {b : Bk} (hv : Val b) {c p d : Nat} (hc : c ≤ b.cords.length) (hp : p < b.places.toNat) : (solveL b (onlyF yes3 c p d) yes2).k = leastB b ↔ ∃ l ∈ retA b, dgN b l c p = d := by
  obtain ⟨h1, h2⟩ := solveL_k hv (onlyF yes3 c p d) yes2
  obtain ⟨h3, l0, hl0, h4⟩ := least_spec hv
  have h6 := costN_bd hv l0
  have hok : ∀ l, allOK b (onlyF yes3 c p d) yes2 l = decide (dgN b l c p = d) := fun l => by rw [allOK_only hc hp, allOK_yes, Bool.true_and]
  constructor
  · intro h
    rcases h2 with h2 | ⟨l, hl, h7, h8⟩
    · omega
    · rw [hok, decide_eq_true_eq] at h7
      refine ⟨l, ?_, h7⟩
      unfold retA retL
      rw [List.take_length]
      exact List.mem_filter.2 ⟨hl, by rw [h8, h]; simp⟩
  · rintro ⟨l, hl, h7⟩
    obtain ⟨hl1, hl2⟩ := ret_mem hl
    have h8 := h1 l hl1 (by rw [hok, h7]; simp)
    rcases h2 with h2 | ⟨l', hl', _, h9⟩
    · omega
    · have := h3 l' hl'
      omega

theorem blame_eq {b : Bk} (hv : Val b) {c : Nat} (hc : c ≤ b.cords.length) : blameC b c = blR b c := by
  have hcl := (cordAt_val hv hc).1
  have hpp := hv.hp
  have hB : 0 < b.base.toNat := by have := hv.hb; omega
  have hAt : (allC b)[c]?.getD default = cordAt b c := allC_at' c hc
  rw [Bool.eq_iff_iff]
  unfold blameC blR
  rw [hAt, List.any_eq_true, List.any_eq_true]
  constructor
  · rintro ⟨p, hp, h⟩
    obtain ⟨d, hd, h⟩ := List.any_eq_true.1 h
    have hp' : p < b.places.toNat := by have := List.mem_range.1 hp; omega
    unfold blameAt at h
    rw [hAt, Bool.and_eq_true, decide_eq_true_eq, decide_eq_true_eq, least_k hv, blame_iff hv hc hp'] at h
    obtain ⟨h1, l, hl, h2⟩ := h
    refine ⟨l, hl, ?_⟩
    rw [decide_eq_true_eq]
    have hn := isum_nonneg (n := b.places.toNat) (f := fun p => costL (cordSp b c p) (dgN b l c p : Nat)) fun _ _ => costL_nonneg _ _
    rcases Int.lt_or_le 0 (kn1 b c l) with h | h
    · exact h
    · have h0 : kn1 b c l = 0 := by unfold kn1 at h ⊢; omega
      have := (isum_eq0 fun _ _ => costL_nonneg _ _).1 h0 p hp'
      rw [h2] at this
      unfold cordSp at this
      omega
  · rintro ⟨l, hl, h⟩
    rw [decide_eq_true_eq] at h
    have : ∃ p, p < b.places.toNat ∧ costL (cordSp b c p) (dgN b l c p : Nat) ≠ 0 := by
      apply Classical.byContradiction
      intro hn
      have : kn1 b c l = 0 := (isum_eq0 fun _ _ => costL_nonneg _ _).2 fun p hp => Classical.byContradiction fun h => hn ⟨p, hp, h⟩
      omega
    obtain ⟨p, hp, h1⟩ := this
    refine ⟨p, List.mem_range.2 (by omega), List.any_eq_true.2 ⟨dgN b l c p, List.mem_range.2 (Nat.mod_lt _ hB), ?_⟩⟩
    unfold blameAt
    rw [hAt, Bool.and_eq_true, decide_eq_true_eq, decide_eq_true_eq, least_k hv, blame_iff hv hc hp]
    refine ⟨?_, l, hl, rfl⟩
    have := costL_nonneg (cordSp b c p) (dgN b l c p : Nat)
    unfold cordSp at this h1
    omega

theorem blameL_eq {b : Bk} (hv : Val b) : blameL b (b.cords.length + 1) = blL b (b.cords.length + 1) := by
  unfold blameL blL
  congr 1
  refine List.filter_congr fun c hc => ?_
  exact blame_eq hv (by have := List.mem_range.1 hc; omega)

theorem blL_none {b : Bk} (hv : Val b) : (blL b (b.cords.length + 1)).length = 0 ↔ leastB b = 0 := by
  obtain ⟨h3, l0, hl0, h4⟩ := least_spec hv
  have hl0' : l0 ∈ retA b := by
    unfold retA retL
    rw [List.take_length]
    exact List.mem_filter.2 ⟨hl0, by rw [h4]; simp⟩
  have hnn : ∀ l : List Nat, ∀ c, c < b.cords.length + 1 → 0 ≤ kn1 b c l := fun l c hc => (knotsL_bd hv (by omega) l).1
  constructor
  · intro h
    have hnil : (List.range (b.cords.length + 1)).filter (blR b) = [] := by
      unfold blL at h
      rw [List.length_map] at h
      exact List.eq_nil_of_length_eq_zero h
    have : costN b l0 = 0 := (isum_eq0 (hnn l0)).2 fun c hc => by
      have := List.filter_eq_nil_iff.1 hnil c (List.mem_range.2 hc)
      have h2 : ¬ 0 < kn1 b c l0 := fun h => this (List.any_eq_true.2 ⟨l0, hl0', by simpa using h⟩)
      have := hnn l0 c hc
      omega
    omega
  · intro h
    unfold blL
    rw [List.length_map, List.length_eq_zero_iff, List.filter_eq_nil_iff]
    intro c hc hb
    obtain ⟨l, hl, h5⟩ := List.any_eq_true.1 hb
    rw [decide_eq_true_eq] at h5
    have h6 := (ret_mem hl).2
    rw [h] at h6
    have := (isum_eq0 (hnn l)).1 h6 c (List.mem_range.1 hc)
    omega

theorem c25r (b : Bk) (hs : Small b) : Ctr Try.prog 25 [KB b] (.tup [IS (blameV b).1, .int (blameV b).2]) := by
  have := c25 b hs
  unfold blameV
  cases hc : checkB b with
  | false =>
    rw [hc] at this
    exact this
  | true =>
    have hv := val_of_check hc
    rw [blameL_eq hv, hc, if_pos rfl] at this
    rw [if_pos rfl]
    by_cases h0 : leastB b = 0
    · rw [if_pos ((blL_none hv).2 h0)] at this
      rw [if_pos h0]
      exact this
    · rw [if_neg fun h => h0 ((blL_none hv).1 h)] at this
      rw [if_neg h0]
      exact this

theorem c4 (b : Bk) (h1 : b.cords.length < 9223372036854775808) : Ctr Try.prog 4 [KB b] (.bool true) := by
  refine ctr_of_wp hmix Try.func4 m4 rfl ?_
  unfold v4
  simp -failIfUnchanged (disch := first | omega | (simp only [List.length_map, List.length_append, List.length_cons, List.length_nil, List.length_take, List.length_drop, cells_int, cells_bool, cells_agg, cells_sl, cells_clo, cells_und, wcs_len, List.length_replicate, List.length_set]; done) | (simp only [List.length_map, List.length_append, List.length_cons, List.length_nil, List.length_take, List.length_drop, cells_int, cells_bool, cells_agg, cells_sl, cells_clo, cells_und, wcs_len, List.length_replicate, List.length_set]; omega)) only [go_sem, simprocAttr]
  refine wcall (c22 b h1) ?_
  cases hf : wideB b with
  | true =>
    simp -failIfUnchanged (disch := first | omega | (simp only [List.length_map, List.length_append, List.length_cons, List.length_nil, List.length_take, List.length_drop, cells_int, cells_bool, cells_agg, cells_sl, cells_clo, cells_und, wcs_len, List.length_replicate, List.length_set]; done) | (simp only [List.length_map, List.length_append, List.length_cons, List.length_nil, List.length_take, List.length_drop, cells_int, cells_bool, cells_agg, cells_sl, cells_clo, cells_und, wcs_len, List.length_replicate, List.length_set]; omega)) only [go_sem, simprocAttr]
    refine wcall c17 ?_
    simp -failIfUnchanged (disch := first | omega | (simp only [List.length_map, List.length_append, List.length_cons, List.length_nil, List.length_take, List.length_drop, cells_int, cells_bool, cells_agg, cells_sl, cells_clo, cells_und, wcs_len, List.length_replicate, List.length_set]; done) | (simp only [List.length_map, List.length_append, List.length_cons, List.length_nil, List.length_take, List.length_drop, cells_int, cells_bool, cells_agg, cells_sl, cells_clo, cells_und, wcs_len, List.length_replicate, List.length_set]; omega)) only [go_sem, simprocAttr]
  | false =>
    simp only [wideB, Bool.or_eq_false_iff, Bool.and_eq_false_iff] at hf
    obtain ⟨hh, hf2⟩ := hf
    have hs := small_small hh
    obtain ⟨k1, k2, k3⟩ := small_of_huge hh
    have hlen : checkB b = true → (frNs b).length < 4294967296 := fun hc => by
      have hv := val_of_check hc
      have hw : wideP b = false := by
        rcases hf2 with h | h
        · rw [hc] at h; cases h
        · exact h
      have hbb := hv.hb
      have := wide_pow hw (Nat.pow_pos (by omega))
      have := fr_count b
      omega
    have e23 : (if checkB b then AV.tup [.int (solveL b yes3 yes2).k, .int 0] else .tup [.int 0, .int 110]) = if checkB b then .tup [.int (leastB b), .int 0] else .tup [.int 0, .int 110] := by
      cases hc : checkB b with
      | false => rfl
      | true => rw [least_k (val_of_check hc)]
    have hr : ∃ x z : Int, (if checkB b then AV.tup [.int (leastB b), .int 0] else .tup [.int 0, .int 110]) = .tup [.int x, .int z] := by
      split
      · exact ⟨_, _, rfl⟩
      · exact ⟨_, _, rfl⟩
    obtain ⟨x, z, hr⟩ := hr
    have hbl : (blameV b).1.length < 4294967296 := by
      unfold blameV
      split
      · split
        · simp
        · unfold blL
          rw [List.length_map]
          have := List.length_filter_le (blR b) (List.range (b.cords.length + 1))
          rw [List.length_range] at this
          omega
      · simp
    have d23 := c23 b hs
    have d24 := c24 b hs hlen
    rw [e23, hr] at d23
    rw [hr] at d24
    simp -failIfUnchanged (disch := first | omega | (simp only [List.length_map, List.length_append, List.length_cons, List.length_nil, List.length_take, List.length_drop, cells_int, cells_bool, cells_agg, cells_sl, cells_clo, cells_und, wcs_len, List.length_replicate, List.length_set]; done) | (simp only [List.length_map, List.length_append, List.length_cons, List.length_nil, List.length_take, List.length_drop, cells_int, cells_bool, cells_agg, cells_sl, cells_clo, cells_und, wcs_len, List.length_replicate, List.length_set]; omega)) only [go_sem, simprocAttr]
    refine wcall (c18 b (by omega) (by omega) (fun x hx => by have := k3 x hx; omega)) ?_
    simp -failIfUnchanged (disch := first | omega | (simp only [List.length_map, List.length_append, List.length_cons, List.length_nil, List.length_take, List.length_drop, cells_int, cells_bool, cells_agg, cells_sl, cells_clo, cells_und, wcs_len, List.length_replicate, List.length_set]; done) | (simp only [List.length_map, List.length_append, List.length_cons, List.length_nil, List.length_take, List.length_drop, cells_int, cells_bool, cells_agg, cells_sl, cells_clo, cells_und, wcs_len, List.length_replicate, List.length_set]; omega)) only [go_sem, simprocAttr]
    refine wcall d23 ?_
    simp -failIfUnchanged (disch := first | omega | (simp only [List.length_map, List.length_append, List.length_cons, List.length_nil, List.length_take, List.length_drop, cells_int, cells_bool, cells_agg, cells_sl, cells_clo, cells_und, wcs_len, List.length_replicate, List.length_set]; done) | (simp only [List.length_map, List.length_append, List.length_cons, List.length_nil, List.length_take, List.length_drop, cells_int, cells_bool, cells_agg, cells_sl, cells_clo, cells_und, wcs_len, List.length_replicate, List.length_set]; omega)) only [go_sem, simprocAttr]
    refine wcall d24 ?_
    simp -failIfUnchanged (disch := first | omega | (simp only [List.length_map, List.length_append, List.length_cons, List.length_nil, List.length_take, List.length_drop, cells_int, cells_bool, cells_agg, cells_sl, cells_clo, cells_und, wcs_len, List.length_replicate, List.length_set]; done) | (simp only [List.length_map, List.length_append, List.length_cons, List.length_nil, List.length_take, List.length_drop, cells_int, cells_bool, cells_agg, cells_sl, cells_clo, cells_und, wcs_len, List.length_replicate, List.length_set]; omega)) only [go_sem, simprocAttr]
    refine wcall (c25r b hs) ?_
    simp -failIfUnchanged (disch := first | omega | (simp only [List.length_map, List.length_append, List.length_cons, List.length_nil, List.length_take, List.length_drop, cells_int, cells_bool, cells_agg, cells_sl, cells_clo, cells_und, wcs_len, List.length_replicate, List.length_set]; done) | (simp only [List.length_map, List.length_append, List.length_cons, List.length_nil, List.length_take, List.length_drop, cells_int, cells_bool, cells_agg, cells_sl, cells_clo, cells_und, wcs_len, List.length_replicate, List.length_set]; omega)) only [go_sem, simprocAttr]
    refine wcall (c26 b hs hlen) ?_
    simp -failIfUnchanged (disch := first | omega | (simp only [List.length_map, List.length_append, List.length_cons, List.length_nil, List.length_take, List.length_drop, cells_int, cells_bool, cells_agg, cells_sl, cells_clo, cells_und, wcs_len, List.length_replicate, List.length_set]; done) | (simp only [List.length_map, List.length_append, List.length_cons, List.length_nil, List.length_take, List.length_drop, cells_int, cells_bool, cells_agg, cells_sl, cells_clo, cells_und, wcs_len, List.length_replicate, List.length_set]; omega)) only [go_sem, simprocAttr]
    refine wcall (c27 _ _ hbl) ?_
    simp -failIfUnchanged (disch := first | omega | (simp only [List.length_map, List.length_append, List.length_cons, List.length_nil, List.length_take, List.length_drop, cells_int, cells_bool, cells_agg, cells_sl, cells_clo, cells_und, wcs_len, List.length_replicate, List.length_set]; done) | (simp only [List.length_map, List.length_append, List.length_cons, List.length_nil, List.length_take, List.length_drop, cells_int, cells_bool, cells_agg, cells_sl, cells_clo, cells_und, wcs_len, List.length_replicate, List.length_set]; omega)) only [go_sem, simprocAttr]
    refine wcall (c21 b b hs) ?_
    simp -failIfUnchanged (disch := first | omega | (simp only [List.length_map, List.length_append, List.length_cons, List.length_nil, List.length_take, List.length_drop, cells_int, cells_bool, cells_agg, cells_sl, cells_clo, cells_und, wcs_len, List.length_replicate, List.length_set]; done) | (simp only [List.length_map, List.length_append, List.length_cons, List.length_nil, List.length_take, List.length_drop, cells_int, cells_bool, cells_agg, cells_sl, cells_clo, cells_und, wcs_len, List.length_replicate, List.length_set]; omega)) only [go_sem, simprocAttr]
    refine wcall c17 ?_
    simp -failIfUnchanged (disch := first | omega | (simp only [List.length_map, List.length_append, List.length_cons, List.length_nil, List.length_take, List.length_drop, cells_int, cells_bool, cells_agg, cells_sl, cells_clo, cells_und, wcs_len, List.length_replicate, List.length_set]; done) | (simp only [List.length_map, List.length_append, List.length_cons, List.length_nil, List.length_take, List.length_drop, cells_int, cells_bool, cells_agg, cells_sl, cells_clo, cells_und, wcs_len, List.length_replicate, List.length_set]; omega)) only [go_sem, simprocAttr]

end Go.Proofs.Ytkkiipjfbebipaa

/- Plain law for KnotsEach: a right reading is one of the lists. -/
set_option linter.unusedSimpArgs false
set_option linter.unusedVariables false
set_option linter.unnecessarySimpa false
namespace Go.Proofs.Ytkkiipjfbebipaa
open Go Go.V

theorem spanL_map {L : List (List Nat)} (f : List Nat → Int) (h : 0 < L.length) : (∃ l ∈ L, (spanL (L.map f) L.length).lo = f l) ∧ (∃ l ∈ L, (spanL (L.map f) L.length).hi = f l) ∧ ∀ l ∈ L, (spanL (L.map f) L.length).lo ≤ f l ∧ f l ≤ (spanL (L.map f) L.length).hi := by
  obtain ⟨⟨x, hx, h1⟩, ⟨y, hy, h2⟩, h3⟩ := spanL_spec (L.map f) (by simpa using h) L.length h (by simp)
  have e : (L.map f).take L.length = L.map f := List.take_of_length_le (by simp)
  rw [e] at hx hy h3
  obtain ⟨l, hl, rfl⟩ := List.mem_map.1 hx
  obtain ⟨k, hk, rfl⟩ := List.mem_map.1 hy
  exact ⟨⟨l, hl, h1⟩, ⟨k, hk, h2⟩, fun m hm => h3 _ (List.mem_map.2 ⟨m, hm, rfl⟩)⟩

/-! Greater digits, a greater number. -/
end Go.Proofs.Ytkkiipjfbebipaa

/- KnotsEach. -/
set_option linter.unusedSimpArgs false
set_option linter.unusedVariables false
set_option linter.unnecessarySimpa false
namespace Go.Proofs.Ytkkiipjfbebipaa
open Go Go.V

theorem c31 (a c : Sp) : Ctr Try.prog 31 [SP a, SP c] (.bool (decide (c.lo ≤ a.lo) && (decide (a.lo ≤ a.hi) && decide (a.hi ≤ c.hi)))) := by
  refine ctr_of_wp hmix Try.func31 m31 rfl ?_
  unfold v31
  simp -failIfUnchanged (disch := first | omega | (simp only [List.length_map, List.length_append, List.length_cons, List.length_nil, List.length_take, List.length_drop, cells_int, cells_bool, cells_agg, cells_sl, cells_clo, cells_und, wcs_len, List.length_replicate, List.length_set]; done) | (simp only [List.length_map, List.length_append, List.length_cons, List.length_nil, List.length_take, List.length_drop, cells_int, cells_bool, cells_agg, cells_sl, cells_clo, cells_und, wcs_len, List.length_replicate, List.length_set]; omega)) only [go_sem, simprocAttr]
  refine WGd_bool (fun h1 => ?_) (fun h1 => ?_)
  · simp -failIfUnchanged (disch := first | omega | (simp only [List.length_map, List.length_append, List.length_cons, List.length_nil, List.length_take, List.length_drop, cells_int, cells_bool, cells_agg, cells_sl, cells_clo, cells_und, wcs_len, List.length_replicate, List.length_set]; done) | (simp only [List.length_map, List.length_append, List.length_cons, List.length_nil, List.length_take, List.length_drop, cells_int, cells_bool, cells_agg, cells_sl, cells_clo, cells_und, wcs_len, List.length_replicate, List.length_set]; omega)) only [go_sem, simprocAttr, h1]
    refine WGd_bool (fun h2 => ?_) (fun h2 => ?_)
    · simp -failIfUnchanged (disch := first | omega | (simp only [List.length_map, List.length_append, List.length_cons, List.length_nil, List.length_take, List.length_drop, cells_int, cells_bool, cells_agg, cells_sl, cells_clo, cells_und, wcs_len, List.length_replicate, List.length_set]; done) | (simp only [List.length_map, List.length_append, List.length_cons, List.length_nil, List.length_take, List.length_drop, cells_int, cells_bool, cells_agg, cells_sl, cells_clo, cells_und, wcs_len, List.length_replicate, List.length_set]; omega)) only [go_sem, simprocAttr, h1, h2]
    · simp -failIfUnchanged (disch := first | omega | (simp only [List.length_map, List.length_append, List.length_cons, List.length_nil, List.length_take, List.length_drop, cells_int, cells_bool, cells_agg, cells_sl, cells_clo, cells_und, wcs_len, List.length_replicate, List.length_set]; done) | (simp only [List.length_map, List.length_append, List.length_cons, List.length_nil, List.length_take, List.length_drop, cells_int, cells_bool, cells_agg, cells_sl, cells_clo, cells_und, wcs_len, List.length_replicate, List.length_set]; omega)) only [go_sem, simprocAttr, h1, h2]
  · simp -failIfUnchanged (disch := first | omega | (simp only [List.length_map, List.length_append, List.length_cons, List.length_nil, List.length_take, List.length_drop, cells_int, cells_bool, cells_agg, cells_sl, cells_clo, cells_und, wcs_len, List.length_replicate, List.length_set]; done) | (simp only [List.length_map, List.length_append, List.length_cons, List.length_nil, List.length_take, List.length_drop, cells_int, cells_bool, cells_agg, cells_sl, cells_clo, cells_und, wcs_len, List.length_replicate, List.length_set]; omega)) only [go_sem, simprocAttr, h1]

end Go.Proofs.Ytkkiipjfbebipaa

/- Plain law for With: the right readings are the free lists that cost nothing. -/
set_option linter.unusedSimpArgs false
set_option linter.unusedVariables false
set_option linter.unnecessarySimpa false
namespace Go.Proofs.Ytkkiipjfbebipaa
open Go Go.V

/-- What With returns. -/
def withB (b : Bk) (c p : Nat) (s : Sp) : Bk :=
  if c = b.cords.length then { b with top := b.top.set p s } else { b with cords := b.cords.set c ((b.cords[c]?.getD default).set p s) }

theorem withB_base (b : Bk) (c p : Nat) (s : Sp) : (withB b c p s).base = b.base := by unfold withB; split <;> rfl
theorem withB_places (b : Bk) (c p : Nat) (s : Sp) : (withB b c p s).places = b.places := by unfold withB; split <;> rfl
theorem withB_len (b : Bk) (c p : Nat) (s : Sp) : (withB b c p s).cords.length = b.cords.length := by unfold withB; split <;> simp
theorem withB_all (b : Bk) (c p : Nat) (s : Sp) : allN (withB b c p s) = allN b := by
  unfold allN
  rw [withB_base, withB_places]

theorem withB_cord {b : Bk} {c p : Nat} {s : Sp} (hc : c ≤ b.cords.length) (e : Nat) (he : e ≤ b.cords.length) : cordAt (withB b c p s) e = if e = c then (cordAt b c).set p s else cordAt b e := by
  unfold cordAt
  rw [withB_len]
  unfold withB
  by_cases h1 : c = b.cords.length
  · rw [if_pos h1]
    by_cases h2 : e = b.cords.length
    · rw [if_pos h2, if_pos (by omega), if_pos h1]
    · rw [if_neg h2, if_neg (by omega), if_neg h2]
  · rw [if_neg h1]
    by_cases h2 : e = b.cords.length
    · rw [if_pos h2, if_neg (by omega), if_pos h2]
    · rw [if_neg h2, if_neg h2]
      by_cases h3 : e = c
      · subst h3
        rw [if_pos rfl, if_neg h2]
        simp [show e < b.cords.length by omega]
      · rw [if_neg h3]
        rw [List.getElem?_set_ne (by omega)]

theorem frees_eq {b b' : Bk} (h1 : allN b' = allN b) : ∀ (k : Nat) (first : List Nat), sumsN b' true k first = sumsN b true k first
  | 0, first => by
    unfold sumsN
    simp [h1]
  | k + 1, first => by
    unfold sumsN
    have e : (List.range (allN b')).filter (isN b' first.length true) = (List.range (allN b)).filter (isN b first.length true) := by
      rw [h1]
      exact List.filter_congr fun n _ => rfl
    rw [e]
    congr 1
    funext n
    exact frees_eq h1 k (first ++ [n])

theorem frNs_with (b : Bk) (c p : Nat) (s : Sp) : frNs (withB b c p s) = frNs b := by
  unfold frNs
  rw [withB_len]
  exact frees_eq (withB_all b c p s) _ _

/-- Whether the numbers from a cord on fit. -/
def fitFrom (b : Bk) (a k : Nat) (l : List Nat) : Bool := (List.range k).all (fun c => fitsL (cordAt b (a + c)) (tieN b.base.toNat b.places.toNat (l[a + c]?.getD default))) && fitsL b.top (tieN b.base.toNat b.places.toNat (l[a + k]?.getD default))

theorem sums_pre (b : Bk) (f : Bool) : ∀ (k : Nat) (first l : List Nat), l ∈ sumsN b f k first → ∀ c, c < first.length → l[c]? = first[c]?
  | 0, first, l, hl, c, hc => by
    unfold sumsN at hl
    split at hl
    · simp only [List.mem_singleton] at hl
      subst hl
      exact List.getElem?_append_left hc
    · simp at hl
  | k + 1, first, l, hl, c, hc => by
    unfold sumsN at hl
    obtain ⟨n, _, hl⟩ := List.mem_flatMap.1 hl
    have := sums_pre b f k (first ++ [n]) l hl c (by simp; omega)
    rw [this, List.getElem?_append_left hc]

theorem sums_filter (b : Bk) : ∀ (k : Nat) (first : List Nat), sumsN b false k first = (sumsN b true k first).filter (fitFrom b first.length k)
  | 0, first => by
    unfold sumsN
    by_cases h : first.sum < allN b
    · by_cases h2 : fitsL b.top (tieN b.base.toNat b.places.toNat first.sum) = true
      · rw [if_pos (by simp [h, h2]), if_pos (by simp [h])]
        simp [fitFrom, h2]
      · rw [if_neg (by simp [h2]), if_pos (by simp [h])]
        simp [fitFrom, h2]
    · rw [if_neg (by simp [h]), if_neg (by simp [h])]
      rfl
  | k + 1, first => by
    unfold sumsN
    rw [List.filter_flatMap]
    have e : (List.range (allN b)).filter (isN b first.length true) = List.range (allN b) := List.filter_eq_self.2 fun n _ => by simp [isN]
    rw [e]
    have key : ∀ L : List Nat, ((L.filter (isN b first.length false)).flatMap fun n => sumsN b false k (first ++ [n])) = L.flatMap fun n => (sumsN b true k (first ++ [n])).filter (fitFrom b first.length (k + 1)) := by
      intro L
      induction L with
      | nil => rfl
      | cons n r ih =>
        have hn : ∀ l ∈ sumsN b true k (first ++ [n]), l[first.length]?.getD default = n := by
          intro l hl
          rw [sums_pre b true k (first ++ [n]) l hl first.length (by simp)]
          simp
        have hf : ∀ l ∈ sumsN b true k (first ++ [n]), fitFrom b first.length (k + 1) l = (isN b first.length false n && fitFrom b (first ++ [n]).length k l) := by
          intro l hl
          unfold fitFrom
          rw [List.range_succ_eq_map, List.all_cons, List.all_map, Nat.add_zero, hn l hl, List.length_append, List.length_singleton]
          have e2 : ((fun c => fitsL (cordAt b (first.length + c)) (tieN b.base.toNat b.places.toNat (l[first.length + c]?.getD default))) ∘ Nat.succ) = fun c => fitsL (cordAt b (first.length + 1 + c)) (tieN b.base.toNat b.places.toNat (l[first.length + 1 + c]?.getD default)) := by
            funext c
            simp only [Function.comp, Nat.succ_eq_add_one]
            rw [show first.length + (c + 1) = first.length + 1 + c by omega]
          rw [e2, show first.length + (k + 1) = first.length + 1 + k by omega]
          simp [isN, Bool.and_assoc]
        rw [List.flatMap_cons, ← ih]
        by_cases h : isN b first.length false n = true
        · rw [List.filter_cons_of_pos h, List.flatMap_cons, sums_filter b k (first ++ [n])]
          congr 1
          exact List.filter_congr fun l hl => by rw [hf l hl, h, Bool.true_and]
        · rw [List.filter_cons_of_neg h]
          have : (sumsN b true k (first ++ [n])).filter (fitFrom b first.length (k + 1)) = [] := List.filter_eq_nil_iff.2 fun l hl => by
            rw [hf l hl]
            simp only [Bool.not_eq_true] at h
            rw [h]
            simp
          rw [this, List.nil_append]
    exact key _

theorem fitFrom_cost {b : Bk} (hv : Val b) (l : List Nat) : fitFrom b 0 b.cords.length l = decide (costN b l = 0) := by
  rw [Bool.eq_iff_iff, decide_eq_true_eq]
  unfold fitFrom costN
  rw [isum_eq0 fun c hc => (knotsL_bd hv (by omega) l).1, Bool.and_eq_true, List.all_eq_true]
  have htop : cordAt b b.cords.length = b.top := by
    unfold cordAt
    rw [if_pos rfl]
  constructor
  · rintro ⟨h1, h2⟩ c hc
    rw [← fits_cost hv (by omega)]
    rcases Nat.lt_or_ge c b.cords.length with h | h
    · have := h1 c (List.mem_range.2 h)
      simpa using this
    · have : c = b.cords.length := by omega
      subst this
      rw [htop]
      simpa using h2
  · intro h
    refine ⟨fun c hc => ?_, ?_⟩
    · have hc' := List.mem_range.1 hc
      have := (fits_cost hv (show c ≤ b.cords.length by omega) l).2 (h c (by omega))
      simpa using this
    · have := (fits_cost hv (Nat.le_refl b.cords.length) l).2 (h _ (by omega))
      rw [htop] at this
      simpa using this

/-- The right readings are the free lists that cost nothing. -/
theorem allNs_fr {b : Bk} (hv : Val b) : allNs b = (frNs b).filter fun l => decide (costN b l = 0) := by
  unfold allNs frNs
  rw [sums_filter]
  exact List.filter_congr fun l _ => fitFrom_cost hv l

end Go.Proofs.Ytkkiipjfbebipaa

/- Plain law for With, part 2: costs. -/
set_option linter.unusedSimpArgs false
set_option linter.unusedVariables false
set_option linter.unnecessarySimpa false
namespace Go.Proofs.Ytkkiipjfbebipaa
open Go Go.V

theorem dgN_with (b : Bk) (c p : Nat) (s : Sp) (l : List Nat) (e q : Nat) : dgN (withB b c p s) l e q = dgN b l e q := by
  unfold dgN
  rw [withB_base, withB_places]

theorem cordSp_with {b : Bk} (hv : Val b) {c p : Nat} {s : Sp} (hc : c ≤ b.cords.length) (hp : p < b.places.toNat) {e : Nat} (he : e ≤ b.cords.length) (q : Nat) :
    cordSp (withB b c p s) e q = if e = c ∧ q = p then s else cordSp b e q := by
  have h1 := (cordAt_val hv hc).1
  unfold cordSp
  rw [withB_cord hc e he]
  by_cases h : e = c
  · subst h
    rw [if_pos rfl]
    by_cases h2 : q = p
    · subst h2
      rw [if_pos ⟨rfl, rfl⟩]
      simp [show q < (cordAt b e).length by omega]
    · rw [if_neg (fun h => h2 h.2), List.getElem?_set_ne (by omega)]
  · rw [if_neg h, if_neg (fun h2 => h h2.1)]

theorem isum_upd {n i : Nat} (hi : i < n) {f g : Nat → Int} (h : ∀ j, j < n → j ≠ i → f j = g j) : isum n f + g i = isum n g + f i := by
  induction n with
  | zero => omega
  | succ n ih =>
    rw [isum_succ, isum_succ]
    rcases Nat.lt_or_ge i n with h1 | h1
    · have := ih h1 fun j hj hne => h j (by omega) hne
      have h2 := h n (by omega) (by omega)
      omega
    · have : i = n := by omega
      subst this
      have := isum_congr (n := i) (f := f) (g := g) fun j hj => h j (by omega) (by omega)
      omega

/-- What a list costs if a cluster is another span. -/
theorem costN_with {b : Bk} (hv : Val b) {c p : Nat} {s : Sp} (hc : c ≤ b.cords.length) (hp : p < b.places.toNat) (l : List Nat) :
    costN (withB b c p s) l + costL (cordSp b c p) (dgN b l c p : Nat) = costN b l + costL s (dgN b l c p : Nat) := by
  have hpl := withB_places b c p s
  have e1 : costN (withB b c p s) l = isum (b.cords.length + 1) fun e => isum b.places.toNat fun q => costL (if e = c ∧ q = p then s else cordSp b e q) (dgN b l e q : Nat) := by
    unfold costN
    rw [withB_len, hpl]
    exact isum_congr fun e he => isum_congr fun q hq => by rw [cordSp_with hv hc hp (by omega), dgN_with]
  have h1 := isum_upd (n := b.cords.length + 1) (i := c) (by omega) (f := fun e => isum b.places.toNat fun q => costL (if e = c ∧ q = p then s else cordSp b e q) (dgN b l e q : Nat)) (g := fun e => isum b.places.toNat fun q => costL (cordSp b e q) (dgN b l e q : Nat)) fun j _ hne => isum_congr fun q _ => by
    rw [if_neg fun h => hne h.1]
  have h2 := isum_upd (n := b.places.toNat) (i := p) hp (f := fun q => costL (if c = c ∧ q = p then s else cordSp b c q) (dgN b l c q : Nat)) (g := fun q => costL (cordSp b c q) (dgN b l c q : Nat)) fun j _ hne => by
    rw [if_neg fun h => hne h.2]
  simp only [and_self, if_true, true_and] at h1 h2
  rw [e1]
  unfold costN
  omega

/-- The book is still right of shape. -/
theorem val_with {b : Bk} (hv : Val b) {c p : Nat} {s : Sp} (hc : c ≤ b.cords.length) (hs : 0 ≤ s.lo ∧ s.lo ≤ s.hi ∧ s.hi < b.base) : Val (withB b c p s) := by
  have hset : ∀ l : List Sp, (∀ t ∈ l, 0 ≤ t.lo ∧ t.lo ≤ t.hi ∧ t.hi < b.base) → ∀ t ∈ l.set p s, 0 ≤ t.lo ∧ t.lo ≤ t.hi ∧ t.hi < b.base := by
    intro l hl t ht
    rcases List.mem_or_eq_of_mem_set ht with h | h
    · exact hl t h
    · subst h; exact hs
  refine ⟨by rw [withB_base]; exact hv.hb, by rw [withB_places]; exact hv.hp, by rw [withB_len]; exact hv.hc, ?_, ?_⟩
  · rw [withB_places, withB_base]
    unfold withB
    split
    · exact hv.cord
    · intro l hl
      rcases List.mem_or_eq_of_mem_set hl with h | h
      · exact hv.cord l h
      · subst h
        have hcl : c < b.cords.length := by omega
        obtain ⟨h1, h2⟩ := hv.cord _ (mem_getD hcl)
        exact ⟨by rw [List.length_set]; exact h1, hset _ h2⟩
  · rw [withB_places, withB_base]
    unfold withB
    split
    · exact ⟨by rw [List.length_set]; exact hv.top.1, hset _ hv.top.2⟩
    · exact hv.top

/-- A narrower span: fewer readings. -/
theorem allNs_with {b : Bk} (hv : Val b) {c p : Nat} {s : Sp} (hc : c ≤ b.cords.length) (hp : p < b.places.toNat) (hs : 0 ≤ s.lo ∧ s.lo ≤ s.hi ∧ s.hi < b.base)
    (hin : (cordSp b c p).lo ≤ s.lo ∧ s.hi ≤ (cordSp b c p).hi) : allNs (withB b c p s) = (allNs b).filter fun l => within (dgN b l c p : Nat) s.lo s.hi := by
  rw [allNs_fr (val_with hv hc hs), allNs_fr hv, frNs_with, List.filter_filter]
  refine List.filter_congr fun l _ => ?_
  have h := costN_with hv (s := s) hc hp l
  have n1 := costN_bd (val_with hv (p := p) (s := s) hc hs) l
  have n2 := costN_bd hv l
  have z1 := costL_zero (s := s) (d := (dgN b l c p : Nat))
  have z2 := costL_zero (s := cordSp b c p) (d := (dgN b l c p : Nat))
  have g1 := costL_nonneg s (dgN b l c p : Nat)
  have g2 := costL_nonneg (cordSp b c p) (dgN b l c p : Nat)
  have hle : costL (cordSp b c p) (dgN b l c p : Nat) ≤ costN b l := by
    have a1 := isum_upd (n := b.cords.length + 1) (i := c) (by omega) (f := fun e => if e = c then 0 else isum b.places.toNat fun q => costL (cordSp b e q) (dgN b l e q : Nat)) (g := fun e => isum b.places.toNat fun q => costL (cordSp b e q) (dgN b l e q : Nat)) fun j _ hne => by rw [if_neg hne]
    have a2 := isum_upd (n := b.places.toNat) (i := p) hp (f := fun q => if q = p then 0 else costL (cordSp b c q) (dgN b l c q : Nat)) (g := fun q => costL (cordSp b c q) (dgN b l c q : Nat)) fun j _ hne => by rw [if_neg hne]
    have a3 : 0 ≤ isum (b.cords.length + 1) fun e => if e = c then 0 else isum b.places.toNat fun q => costL (cordSp b e q) (dgN b l e q : Nat) := isum_nonneg fun e he => by
      split
      · exact Int.le_refl _
      · exact isum_nonneg fun q _ => costL_nonneg _ _
    have a4 : 0 ≤ isum b.places.toNat fun q => if q = p then 0 else costL (cordSp b c q) (dgN b l c q : Nat) := isum_nonneg fun q _ => by
      split
      · exact Int.le_refl _
      · exact costL_nonneg _ _
    simp only [if_true] at a1 a2
    unfold costN
    omega
  rw [Bool.eq_iff_iff, Bool.and_eq_true, decide_eq_true_eq, decide_eq_true_eq]
  constructor
  · intro h0
    have hs0 : costL s (dgN b l c p : Nat) = 0 := by
      have hle2 : costL (cordSp b c p) (dgN b l c p : Nat) ≤ costL s (dgN b l c p : Nat) := by unfold costL; omega
      omega
    have hw := z1.1 hs0
    refine ⟨hw, ?_⟩
    have : costL (cordSp b c p) (dgN b l c p : Nat) = 0 := by
      have hw' : s.lo ≤ (dgN b l c p : Nat) ∧ ((dgN b l c p : Nat) : Int) ≤ s.hi := by simpa [within] using hw
      unfold costL
      omega
    omega
  · rintro ⟨hw, h0⟩
    have := z1.2 hw
    omega

end Go.Proofs.Ytkkiipjfbebipaa

/- Plain law for With, part 3: what the laws say. -/
set_option linter.unusedSimpArgs false
set_option linter.unusedVariables false
set_option linter.unnecessarySimpa false
namespace Go.Proofs.Ytkkiipjfbebipaa
open Go Go.V

/-- A cluster that costs no less: Retie is not less. -/
theorem least_mono {b : Bk} (hv : Val b) {c p : Nat} {s : Sp} (hc : c ≤ b.cords.length) (hp : p < b.places.toNat) (hv' : Val (withB b c p s)) (h : ∀ d : Nat, costL (cordSp b c p) d ≤ costL s d) : leastB b ≤ leastB (withB b c p s) := by
  obtain ⟨_, l, hl, h2⟩ := least_spec hv'
  rw [frNs_with] at hl
  have h3 := (least_spec hv).1 l hl
  have h4 := costN_with hv (s := s) hc hp l
  have h5 := h (dgN b l c p)
  omega

theorem cost_in {s t : Sp} (h : s.lo ≤ t.lo ∧ t.hi ≤ s.hi) (d : Nat) : costL s d ≤ costL t d := by
  unfold costL
  omega

/-- A narrower cluster: Sure of a cord is not wider. -/
theorem sure_with {b : Bk} (hc0 : checkB b = true) {c p : Nat} {s : Sp} (hc : c ≤ b.cords.length) (hp : p < b.places.toNat) (hs : 0 ≤ s.lo ∧ s.lo ≤ s.hi ∧ s.hi < b.base)
    (hin : (cordSp b c p).lo ≤ s.lo ∧ s.hi ≤ (cordSp b c p).hi) (hc0' : checkB (withB b c p s) = true) (hne : 0 < (allNs (withB b c p s)).length) {e : Nat} (he : e ≤ b.cords.length) :
    ∃ u v : Sp, sureR b e = (u, 0) ∧ sureR (withB b c p s) e = (v, 0) ∧ u.lo ≤ v.lo ∧ v.lo ≤ v.hi ∧ v.hi ≤ u.hi := by
  have hv := val_of_check hc0
  have hv' := val_of_check hc0'
  have hsub : ∀ l ∈ allNs (withB b c p s), l ∈ allNs b := by
    intro l hl
    rw [allNs_with hv hc hp hs hin] at hl
    exact (List.mem_filter.1 hl).1
  have hpos : 0 < (allNs b).length := by
    obtain ⟨l, hl⟩ := List.exists_mem_of_length_pos hne
    exact List.length_pos_of_mem (hsub l hl)
  have key : ∀ (b : Bk), checkB b = true → 0 < (allNs b).length → e ≤ b.cords.length → ∃ u, sureR b e = (u, 0) ∧ (∃ l ∈ allNs b, u.lo = ((l[e]?.getD default : Nat) : Int)) ∧ (∃ l ∈ allNs b, u.hi = ((l[e]?.getD default : Nat) : Int)) ∧ ∀ l ∈ allNs b, u.lo ≤ ((l[e]?.getD default : Nat) : Int) ∧ ((l[e]?.getD default : Nat) : Int) ≤ u.hi := by
    intro b hc0 hpos he
    have hw : within (e : Int) 0 b.cords.length = true := by simp [within]; omega
    have hcs : colS b e (allNs b).length = (allNs b).map fun l => ((l[e]?.getD default : Nat) : Int) := by
      unfold colS
      rw [List.take_length]
    obtain ⟨h1, h2, h3⟩ := spanL_map (fun l : List Nat => ((l[e]?.getD default : Nat) : Int)) hpos
    refine ⟨spanL ((allNs b).map fun l => ((l[e]?.getD default : Nat) : Int)) (allNs b).length, ?_, h1, h2, h3⟩
    unfold sureR ansS
    rw [hc0, hw, if_pos rfl, if_pos rfl, if_neg (by omega), Int.toNat_natCast, hcs]
  obtain ⟨u, e1, _, _, u3⟩ := key b hc0 hpos he
  obtain ⟨v, e2, ⟨l1, hl1, v1⟩, ⟨l2, hl2, v2⟩, v3⟩ := key (withB b c p s) hc0' hne (by rw [withB_len]; exact he)
  have a1 := u3 l1 (hsub l1 hl1)
  have a2 := u3 l2 (hsub l2 hl2)
  have a3 := v3 l1 hl1
  exact ⟨u, v, e1, e2, by omega, by omega, by omega⟩

end Go.Proofs.Ytkkiipjfbebipaa

/- With: a book in which one cluster is another span. -/
set_option linter.unusedSimpArgs false
set_option linter.unusedVariables false
set_option linter.unnecessarySimpa false
namespace Go.Proofs.Ytkkiipjfbebipaa
open Go Go.V

@[simp] theorem flat_len (l : List Sp) : (flat (l.map SP)).length = l.length * 2 := by
  rw [flat_length (sz := 2)]
  · simp
  · intro e he
    obtain ⟨s, _, rfl⟩ := List.mem_map.1 he
    rfl

theorem setAt_flat (l : List Sp) (p : Nat) (a c : Int) (h : p < l.length) : setAt (flat (l.map SP)) (p * 2) [.int a, .int c] = flat ((l.set p ⟨a, c⟩).map SP) := by
  induction l generalizing p with
  | nil => simp at h
  | cons s r ih =>
    cases p with
    | zero => rfl
    | succ p =>
      simp only [List.map_cons, flat, cells_agg, List.set_cons_succ]
      have := ih p (by simpa using h)
      rw [show (p + 1) * 2 = p * 2 + 1 + 1 by omega]
      simp only [List.cons_append, List.nil_append, setAt]
      rw [this]

theorem chunks_flat (l : List Sp) (pre : List AV) (k : Nat) (hk : k = l.length) : chunks true 2 (pre ++ flat (l.map SP)) pre.length k = l.map SP := by
  subst hk
  induction l generalizing pre with
  | nil => rfl
  | cons s r ih =>
    simp only [List.length_cons, chunks, List.map_cons, flat, cells_agg]
    congr 1
    · simp [chunk]
    · have := ih (pre ++ [.int s.lo, .int s.hi])
      simp only [List.append_assoc, List.length_append, List.length_cons, List.length_nil] at this
      exact this

theorem chunks_flat0 (l : List Sp) (k : Nat) (hk : k = l.length) : chunks true 2 (flat (l.map SP)) 0 k = l.map SP := chunks_flat l [] k hk

theorem map_tidy_flat (l : List Sp) (hp : HpL) : (flat (l.map SP)).map (tidy hp) = flat (l.map SP) := by
  induction l with
  | nil => rfl
  | cons s r ih => simp only [List.map_cons, flat, cells_agg, List.map_append, List.map_nil, tidy_int, ih]

theorem map_strip_flat (l : List Sp) (hp : HpL) : (flat (l.map SP)).map (strip hp) = flat (l.map SP) := by
  induction l with
  | nil => rfl
  | cons s r ih => simp only [List.map_cons, flat, cells_agg, List.map_append, List.map_nil, strip_int, ih]

/-- The rows that are copied. -/
def rowsC (cords : List (List Sp)) : Nat → HpL
  | 0 => []
  | i + 1 => (K 2 i 0, ⟨flat ((cords[i]?.getD default).map SP), false⟩) :: rowsC cords i

def cellsC (cords : List (List Sp)) : Nat → List AV
  | 0 => []
  | i + 1 => cellsC cords i ++ [.gsl 2 i 0 2 (cords[i]?.getD default).length true]

def restC (cords : List (List Sp)) : Nat → HpL
  | 0 => []
  | i + 1 => (K 3 0 i, ⟨cellsC cords (i + 1), false⟩) :: rowsC cords (i + 1)

def ccC : Nat → AV
  | 0 => .sl 1 [] .full
  | i + 1 => .gsl 3 0 i 1 (i + 1) false

theorem scopes_flat (l : List Sp) (τ : AS) : scopes τ (flat (l.map SP)) = True := by
  induction l with
  | nil => rfl
  | cons s r ih => simp only [List.map_cons, flat, cells_agg, List.cons_append, List.nil_append, scopes, inS_int, ih, and_self]

theorem bids_flat (l : List Sp) : bids (flat (l.map SP)) = [] := by
  induction l with
  | nil => rfl
  | cons s r ih => simp only [List.map_cons, flat, cells_agg, List.cons_append, List.nil_append, bids, bid_int, ih]

attribute [go_sem] flat_len map_tidy_flat map_strip_flat scopes_flat bids_flat

end Go.Proofs.Ytkkiipjfbebipaa

/- With: a book in which one cluster is another span: the walk. -/
set_option linter.unusedSimpArgs false
set_option linter.unusedVariables false
set_option linter.unnecessarySimpa false
namespace Go.Proofs.Ytkkiipjfbebipaa
open Go Go.V

/-- The state at the head of Copy's loop. -/
def stC (base places : Int) (cords : List (List Sp)) (top : List Sp) (hp0 : HpL) (i : Nat) : AS :=
  ⟨[(1, .ptr 4001 0), (2, .ptr 4002 0), (3, .ptr 4003 0), (4, .int (i : Nat))],
   (4003, ⟨[.int base, .int places, ccC i, .gsl 1 0 0 2 top.length true], false⟩) :: (4002, ⟨[.int 0, .int 0, .sl 1 [] .full, .sl 2 [] .full], false⟩) :: (4001, ⟨[.int base, .int places, .sl 1 (cords.map SS) .sh, SS top], false⟩) ::
   (K 1 0 0, ⟨flat (top.map SP), false⟩) :: (hp0 ++ restC cords i), [], none⟩

theorem exL0 {l : List (List Sp)} (h : l.length = 0) : l = [] := List.eq_nil_of_length_eq_zero h
theorem exL1 {l : List (List Sp)} (h : l.length = 1) : ∃ l0, l = [l0] := by
  match l, h with
  | [a0], _ => exact ⟨a0, rfl⟩
theorem exL2 {l : List (List Sp)} (h : l.length = 2) : ∃ l0 l1, l = [l0, l1] := by
  match l, h with
  | [a0, a1], _ => exact ⟨a0, a1, rfl⟩
theorem exL3 {l : List (List Sp)} (h : l.length = 3) : ∃ l0 l1 l2, l = [l0, l1, l2] := by
  match l, h with
  | [a0, a1, a2], _ => exact ⟨a0, a1, a2, rfl⟩
theorem exL4 {l : List (List Sp)} (h : l.length = 4) : ∃ l0 l1 l2 l3, l = [l0, l1, l2, l3] := by
  match l, h with
  | [a0, a1, a2, a3], _ => exact ⟨a0, a1, a2, a3, rfl⟩

theorem c33 (base places : Int) (cords : List (List Sp)) (top : List Sp) (c p : Nat) (s : Sp) (hpl : 0 ≤ places ∧ places ≤ 4) (h4 : cords.length ≤ 4) (hr : ∀ l ∈ cords, (l.length : Int) = places) (ht : (top.length : Int) = places) (hc : c ≤ cords.length) (hp : (p : Int) < places) :
    Ctr Try.prog 33 [KB ⟨base, places, cords, top⟩, .int c, .int p, SP s] (KB (withB ⟨base, places, cords, top⟩ c p s)) := by
  have hrow : ∀ i, i < cords.length → ((cords[i]?.getD default).length : Int) = places := fun i hi => hr _ (mem_getD hi)
  refine ctr_of_wp hmix Try.func33 m33g rfl ?_
  unfold v33g
  simp -failIfUnchanged (disch := first | omega | (simp [wcs_len] <;> omega) | fail) only [go_sem, simprocAttr]
  refine wcall_in hmix Try.func18 m18g rfl ?_
  unfold v18g
  simp -failIfUnchanged (disch := first | omega | (simp [wcs_len] <;> omega) | fail) only [go_sem, simprocAttr]
  refine wp_loopX Nat (stC base places cords top [(4, ⟨[.int base, .int places, .sl 1 (cords.map SS) .sh, SS top], false⟩), (7, ⟨[.int s.lo, .int s.hi], false⟩), (8, ⟨[.int 0, .int 0, .sl 1 [] .full, .sl 2 [] .full], false⟩)]) (fun i => i ≤ cords.length) (fun i => cords.length - i) 0 (by simp) (by unfold stC restC ccC; simp -failIfUnchanged (disch := first | omega | (simp [wcs_len] <;> omega) | fail) only [go_sem, simprocAttr]; try simp) (fun i => by unfold stC; simp -failIfUnchanged (disch := first | omega | (simp [wcs_len] <;> omega) | fail) only [go_sem, simprocAttr]; try simp) ?_
  generalize hS : stC base places cords top [(4, ⟨[.int base, .int places, .sl 1 (cords.map SS) .sh, SS top], false⟩), (7, ⟨[.int s.lo, .int s.hi], false⟩), (8, ⟨[.int 0, .int 0, .sl 1 [] .full, .sl 2 [] .full], false⟩)] = S
  have hSi := fun i => congrFun hS i
  intro i hi
  have h9 : i = 0 ∨ i = 1 ∨ i = 2 ∨ i = 3 ∨ i = 4 := by omega
  rcases h9 with rfl | rfl | rfl | rfl | rfl
  · have hs := hSi 0
    simp only [stC, restC, ccC, cellsC, rowsC, List.cons_append, List.nil_append] at hs
    rw [← hs]
    simp -failIfUnchanged (disch := first | omega | (simp [wcs_len] <;> omega) | fail) only [go_sem, simprocAttr]
    refine wcond_dec (fun h => ?_) (fun h => ?_)
    · have hlt : 0 < cords.length := by omega
      have hr0 := hrow 0 hlt
      simp -failIfUnchanged (disch := first | omega | (simp [wcs_len] <;> omega) | fail) only [go_sem, simprocAttr]
      refine lpx_norm ⟨1, by omega, by omega, ?_⟩
      have ht := hSi 1
      simp only [stC, restC, ccC, cellsC, rowsC, List.cons_append, List.nil_append] at ht
      rw [← ht]
      simp -failIfUnchanged (disch := first | omega | (simp [wcs_len] <;> omega) | fail) only [go_sem, simprocAttr]
      try simp
    · have hcl : cords.length = 0 := by omega
      clear hS hSi hs
      simp -failIfUnchanged (disch := first | omega | (simp [wcs_len] <;> omega) | fail) only [go_sem, simprocAttr]
      refine wcond_dec (fun h2 => ?_) (fun h2 => ?_)
      · simp -failIfUnchanged (disch := first | omega | (simp [wcs_len] <;> omega) | fail) only [go_sem, simprocAttr]
        rw [setAt_flat _ _ _ _ (by omega)]
        refine wopsN [K 1 0 0] ?_
        simp -failIfUnchanged (disch := first | omega | (simp [wcs_len] <;> omega) | fail) only [go_sem, simprocAttr, Nat.le_refl, List.length_set]
        obtain rfl : c = 0 := by omega
        obtain rfl := exL0 hcl
        simp [-List.map_set, withB, chunks, chunk, chunks_flat0]
      · omega
  · have hs := hSi 1
    simp only [stC, restC, ccC, cellsC, rowsC, List.cons_append, List.nil_append] at hs
    rw [← hs]
    simp -failIfUnchanged (disch := first | omega | (simp [wcs_len] <;> omega) | fail) only [go_sem, simprocAttr]
    refine wcond_dec (fun h => ?_) (fun h => ?_)
    · have hlt : 1 < cords.length := by omega
      have hr0 := hrow 1 hlt
      simp -failIfUnchanged (disch := first | omega | (simp [wcs_len] <;> omega) | fail) only [go_sem, simprocAttr]
      refine lpx_norm ⟨2, by omega, by omega, ?_⟩
      have ht := hSi 2
      simp only [stC, restC, ccC, cellsC, rowsC, List.cons_append, List.nil_append] at ht
      rw [← ht]
      simp -failIfUnchanged (disch := first | omega | (simp [wcs_len] <;> omega) | fail) only [go_sem, simprocAttr]
      try simp
    · have hcl : cords.length = 1 := by omega
      clear hS hSi hs
      simp -failIfUnchanged (disch := first | omega | (simp [wcs_len] <;> omega) | fail) only [go_sem, simprocAttr]
      refine wcond_dec (fun h2 => ?_) (fun h2 => ?_)
      · simp -failIfUnchanged (disch := first | omega | (simp [wcs_len] <;> omega) | fail) only [go_sem, simprocAttr]
        rw [setAt_flat _ _ _ _ (by omega)]
        refine wopsN [K 1 0 0, K 2 0 0, K 3 0 0] ?_
        simp -failIfUnchanged (disch := first | omega | (simp [wcs_len] <;> omega) | fail) only [go_sem, simprocAttr, Nat.le_refl, List.length_set]
        obtain rfl : c = 1 := by omega
        obtain ⟨l0, rfl⟩ := exL1 hcl
        simp [-List.map_set, withB, chunks, chunk, chunks_flat0]
      · have hcj : c = 0 := by omega
        rcases hcj with rfl
        · have hr0 := hrow 0 (by omega)
          simp -failIfUnchanged (disch := first | omega | (simp [wcs_len] <;> omega) | fail) only [go_sem, simprocAttr]
          rw [setAt_flat _ _ _ _ (by omega)]
          refine wopsN [K 1 0 0, K 2 0 0, K 3 0 0] ?_
          simp -failIfUnchanged (disch := first | omega | (simp [wcs_len] <;> omega) | fail) only [go_sem, simprocAttr, Nat.le_refl, List.length_set]
          obtain ⟨l0, rfl⟩ := exL1 hcl
          simp [-List.map_set, withB, chunks, chunk, chunks_flat0]
  · have hs := hSi 2
    simp only [stC, restC, ccC, cellsC, rowsC, List.cons_append, List.nil_append] at hs
    rw [← hs]
    simp -failIfUnchanged (disch := first | omega | (simp [wcs_len] <;> omega) | fail) only [go_sem, simprocAttr]
    refine wcond_dec (fun h => ?_) (fun h => ?_)
    · have hlt : 2 < cords.length := by omega
      have hr0 := hrow 2 hlt
      simp -failIfUnchanged (disch := first | omega | (simp [wcs_len] <;> omega) | fail) only [go_sem, simprocAttr]
      refine lpx_norm ⟨3, by omega, by omega, ?_⟩
      have ht := hSi 3
      simp only [stC, restC, ccC, cellsC, rowsC, List.cons_append, List.nil_append] at ht
      rw [← ht]
      simp -failIfUnchanged (disch := first | omega | (simp [wcs_len] <;> omega) | fail) only [go_sem, simprocAttr]
      try simp
    · have hcl : cords.length = 2 := by omega
      clear hS hSi hs
      simp -failIfUnchanged (disch := first | omega | (simp [wcs_len] <;> omega) | fail) only [go_sem, simprocAttr]
      refine wcond_dec (fun h2 => ?_) (fun h2 => ?_)
      · simp -failIfUnchanged (disch := first | omega | (simp [wcs_len] <;> omega) | fail) only [go_sem, simprocAttr]
        rw [setAt_flat _ _ _ _ (by omega)]
        refine wopsN [K 1 0 0, K 2 0 0, K 2 1 0, K 3 0 1] ?_
        simp -failIfUnchanged (disch := first | omega | (simp [wcs_len] <;> omega) | fail) only [go_sem, simprocAttr, Nat.le_refl, List.length_set]
        obtain rfl : c = 2 := by omega
        obtain ⟨l0, l1, rfl⟩ := exL2 hcl
        simp [-List.map_set, withB, chunks, chunk, chunks_flat0]
      · have hcj : c = 0 ∨ c = 1 := by omega
        rcases hcj with rfl | rfl
        · have hr0 := hrow 0 (by omega)
          simp -failIfUnchanged (disch := first | omega | (simp [wcs_len] <;> omega) | fail) only [go_sem, simprocAttr]
          rw [setAt_flat _ _ _ _ (by omega)]
          refine wopsN [K 1 0 0, K 2 0 0, K 2 1 0, K 3 0 1] ?_
          simp -failIfUnchanged (disch := first | omega | (simp [wcs_len] <;> omega) | fail) only [go_sem, simprocAttr, Nat.le_refl, List.length_set]
          obtain ⟨l0, l1, rfl⟩ := exL2 hcl
          simp [-List.map_set, withB, chunks, chunk, chunks_flat0]
        · have hr0 := hrow 1 (by omega)
          simp -failIfUnchanged (disch := first | omega | (simp [wcs_len] <;> omega) | fail) only [go_sem, simprocAttr]
          rw [setAt_flat _ _ _ _ (by omega)]
          refine wopsN [K 1 0 0, K 2 0 0, K 2 1 0, K 3 0 1] ?_
          simp -failIfUnchanged (disch := first | omega | (simp [wcs_len] <;> omega) | fail) only [go_sem, simprocAttr, Nat.le_refl, List.length_set]
          obtain ⟨l0, l1, rfl⟩ := exL2 hcl
          simp [-List.map_set, withB, chunks, chunk, chunks_flat0]
  · have hs := hSi 3
    simp only [stC, restC, ccC, cellsC, rowsC, List.cons_append, List.nil_append] at hs
    rw [← hs]
    simp -failIfUnchanged (disch := first | omega | (simp [wcs_len] <;> omega) | fail) only [go_sem, simprocAttr]
    refine wcond_dec (fun h => ?_) (fun h => ?_)
    · have hlt : 3 < cords.length := by omega
      have hr0 := hrow 3 hlt
      simp -failIfUnchanged (disch := first | omega | (simp [wcs_len] <;> omega) | fail) only [go_sem, simprocAttr]
      refine lpx_norm ⟨4, by omega, by omega, ?_⟩
      have ht := hSi 4
      simp only [stC, restC, ccC, cellsC, rowsC, List.cons_append, List.nil_append] at ht
      rw [← ht]
      simp -failIfUnchanged (disch := first | omega | (simp [wcs_len] <;> omega) | fail) only [go_sem, simprocAttr]
      try simp
    · have hcl : cords.length = 3 := by omega
      clear hS hSi hs
      simp -failIfUnchanged (disch := first | omega | (simp [wcs_len] <;> omega) | fail) only [go_sem, simprocAttr]
      refine wcond_dec (fun h2 => ?_) (fun h2 => ?_)
      · simp -failIfUnchanged (disch := first | omega | (simp [wcs_len] <;> omega) | fail) only [go_sem, simprocAttr]
        rw [setAt_flat _ _ _ _ (by omega)]
        refine wopsN [K 1 0 0, K 2 0 0, K 2 1 0, K 2 2 0, K 3 0 2] ?_
        simp -failIfUnchanged (disch := first | omega | (simp [wcs_len] <;> omega) | fail) only [go_sem, simprocAttr, Nat.le_refl, List.length_set]
        obtain rfl : c = 3 := by omega
        obtain ⟨l0, l1, l2, rfl⟩ := exL3 hcl
        simp [-List.map_set, withB, chunks, chunk, chunks_flat0]
      · have hcj : c = 0 ∨ c = 1 ∨ c = 2 := by omega
        rcases hcj with rfl | rfl | rfl
        · have hr0 := hrow 0 (by omega)
          simp -failIfUnchanged (disch := first | omega | (simp [wcs_len] <;> omega) | fail) only [go_sem, simprocAttr]
          rw [setAt_flat _ _ _ _ (by omega)]
          refine wopsN [K 1 0 0, K 2 0 0, K 2 1 0, K 2 2 0, K 3 0 2] ?_
          simp -failIfUnchanged (disch := first | omega | (simp [wcs_len] <;> omega) | fail) only [go_sem, simprocAttr, Nat.le_refl, List.length_set]
          obtain ⟨l0, l1, l2, rfl⟩ := exL3 hcl
          simp [-List.map_set, withB, chunks, chunk, chunks_flat0]
        · have hr0 := hrow 1 (by omega)
          simp -failIfUnchanged (disch := first | omega | (simp [wcs_len] <;> omega) | fail) only [go_sem, simprocAttr]
          rw [setAt_flat _ _ _ _ (by omega)]
          refine wopsN [K 1 0 0, K 2 0 0, K 2 1 0, K 2 2 0, K 3 0 2] ?_
          simp -failIfUnchanged (disch := first | omega | (simp [wcs_len] <;> omega) | fail) only [go_sem, simprocAttr, Nat.le_refl, List.length_set]
          obtain ⟨l0, l1, l2, rfl⟩ := exL3 hcl
          simp [-List.map_set, withB, chunks, chunk, chunks_flat0]
        · have hr0 := hrow 2 (by omega)
          simp -failIfUnchanged (disch := first | omega | (simp [wcs_len] <;> omega) | fail) only [go_sem, simprocAttr]
          rw [setAt_flat _ _ _ _ (by omega)]
          refine wopsN [K 1 0 0, K 2 0 0, K 2 1 0, K 2 2 0, K 3 0 2] ?_
          simp -failIfUnchanged (disch := first | omega | (simp [wcs_len] <;> omega) | fail) only [go_sem, simprocAttr, Nat.le_refl, List.length_set]
          obtain ⟨l0, l1, l2, rfl⟩ := exL3 hcl
          simp [-List.map_set, withB, chunks, chunk, chunks_flat0]
  · have hs := hSi 4
    simp only [stC, restC, ccC, cellsC, rowsC, List.cons_append, List.nil_append] at hs
    rw [← hs]
    simp -failIfUnchanged (disch := first | omega | (simp [wcs_len] <;> omega) | fail) only [go_sem, simprocAttr]
    refine wcond_dec (fun h => ?_) (fun h => ?_)
    · omega
    · have hcl : cords.length = 4 := by omega
      clear hS hSi hs
      simp -failIfUnchanged (disch := first | omega | (simp [wcs_len] <;> omega) | fail) only [go_sem, simprocAttr]
      refine wcond_dec (fun h2 => ?_) (fun h2 => ?_)
      · simp -failIfUnchanged (disch := first | omega | (simp [wcs_len] <;> omega) | fail) only [go_sem, simprocAttr]
        rw [setAt_flat _ _ _ _ (by omega)]
        refine wopsN [K 1 0 0, K 2 0 0, K 2 1 0, K 2 2 0, K 2 3 0, K 3 0 3] ?_
        simp -failIfUnchanged (disch := first | omega | (simp [wcs_len] <;> omega) | fail) only [go_sem, simprocAttr, Nat.le_refl, List.length_set]
        obtain rfl : c = 4 := by omega
        obtain ⟨l0, l1, l2, l3, rfl⟩ := exL4 hcl
        simp [-List.map_set, withB, chunks, chunk, chunks_flat0]
      · have hcj : c = 0 ∨ c = 1 ∨ c = 2 ∨ c = 3 := by omega
        rcases hcj with rfl | rfl | rfl | rfl
        · have hr0 := hrow 0 (by omega)
          simp -failIfUnchanged (disch := first | omega | (simp [wcs_len] <;> omega) | fail) only [go_sem, simprocAttr]
          rw [setAt_flat _ _ _ _ (by omega)]
          refine wopsN [K 1 0 0, K 2 0 0, K 2 1 0, K 2 2 0, K 2 3 0, K 3 0 3] ?_
          simp -failIfUnchanged (disch := first | omega | (simp [wcs_len] <;> omega) | fail) only [go_sem, simprocAttr, Nat.le_refl, List.length_set]
          obtain ⟨l0, l1, l2, l3, rfl⟩ := exL4 hcl
          simp [-List.map_set, withB, chunks, chunk, chunks_flat0]
        · have hr0 := hrow 1 (by omega)
          simp -failIfUnchanged (disch := first | omega | (simp [wcs_len] <;> omega) | fail) only [go_sem, simprocAttr]
          rw [setAt_flat _ _ _ _ (by omega)]
          refine wopsN [K 1 0 0, K 2 0 0, K 2 1 0, K 2 2 0, K 2 3 0, K 3 0 3] ?_
          simp -failIfUnchanged (disch := first | omega | (simp [wcs_len] <;> omega) | fail) only [go_sem, simprocAttr, Nat.le_refl, List.length_set]
          obtain ⟨l0, l1, l2, l3, rfl⟩ := exL4 hcl
          simp [-List.map_set, withB, chunks, chunk, chunks_flat0]
        · have hr0 := hrow 2 (by omega)
          simp -failIfUnchanged (disch := first | omega | (simp [wcs_len] <;> omega) | fail) only [go_sem, simprocAttr]
          rw [setAt_flat _ _ _ _ (by omega)]
          refine wopsN [K 1 0 0, K 2 0 0, K 2 1 0, K 2 2 0, K 2 3 0, K 3 0 3] ?_
          simp -failIfUnchanged (disch := first | omega | (simp [wcs_len] <;> omega) | fail) only [go_sem, simprocAttr, Nat.le_refl, List.length_set]
          obtain ⟨l0, l1, l2, l3, rfl⟩ := exL4 hcl
          simp [-List.map_set, withB, chunks, chunk, chunks_flat0]
        · have hr0 := hrow 3 (by omega)
          simp -failIfUnchanged (disch := first | omega | (simp [wcs_len] <;> omega) | fail) only [go_sem, simprocAttr]
          rw [setAt_flat _ _ _ _ (by omega)]
          refine wopsN [K 1 0 0, K 2 0 0, K 2 1 0, K 2 2 0, K 2 3 0, K 3 0 3] ?_
          simp -failIfUnchanged (disch := first | omega | (simp [wcs_len] <;> omega) | fail) only [go_sem, simprocAttr, Nat.le_refl, List.length_set]
          obtain ⟨l0, l1, l2, l3, rfl⟩ := exL4 hcl
          simp [-List.map_set, withB, chunks, chunk, chunks_flat0]

end Go.Proofs.Ytkkiipjfbebipaa

/- With: what the laws with it share. -/
set_option linter.unusedSimpArgs false
set_option linter.unusedVariables false
set_option linter.unnecessarySimpa false
namespace Go.Proofs.Ytkkiipjfbebipaa
open Go Go.V

theorem check_of_val {b : Bk} (hv : Val b) : checkB b = true := by
  obtain ⟨h1, h2, h3, h4, h5, h6⟩ := hv
  have key : ∀ l : List Sp, (l.length : Int) = b.places → (∀ s ∈ l, 0 ≤ s.lo ∧ s.lo ≤ s.hi ∧ s.hi < b.base) → isCordB b l = true := by
    intro l hl hs
    simp only [isCordB, hl, decide_true, Bool.true_and, Bool.not_eq_true', List.any_eq_false]
    intro s hs'
    have := hs s hs'
    simp only [badS, within, Bool.or_eq_true, Bool.not_eq_true', decide_eq_false_iff_not, decide_eq_true_eq, not_or, Decidable.not_not]
    omega
  simp only [checkB, within, Bool.and_eq_true, decide_eq_true_eq, Bool.not_eq_true', List.any_eq_false]
  refine ⟨h1, h2, by omega, fun l hl => ?_, key b.top h5 h6⟩
  simp [key l (h4 l hl).1 (h4 l hl).2]

theorem c33r (b : Bk) (hv : Val b) (c p : Nat) (s : Sp) (hc : c ≤ b.cords.length) (hp : p < b.places.toNat) : Ctr Try.prog 33 [KB b, .int c, .int p, SP s] (KB (withB b c p s)) := by
  obtain ⟨base, places, cords, top⟩ := b
  have h2 := hv.hp
  exact c33 base places cords top c p s (by dsimp only at h2; omega) hv.hc (fun l hl => (hv.cord l hl).1) hv.top.1 hc (by dsimp only at hp h2 ⊢; omega)

theorem small_with {b : Bk} (hv : Val b) (c p : Nat) (s : Sp) : Small (withB b c p s) := by
  have h1 := hv.hc
  have h2 := hv.hp
  have h3 := hv.top.1
  refine small_small ?_
  have hl : ∀ l ∈ (withB b c p s).cords, l.length ≤ 40 := by
    intro l hl
    unfold withB at hl
    split at hl
    · have := (hv.cord l hl).1; omega
    · rcases List.mem_or_eq_of_mem_set hl with h | h
      · have := (hv.cord l h).1; omega
      · subst h
        rw [List.length_set]
        rcases Nat.lt_or_ge c b.cords.length with hc | hc
        · have := (hv.cord _ (mem_getD hc)).1; omega
        · rw [List.getElem?_eq_none hc]; simp; exact Nat.zero_le _
  have ht : (withB b c p s).top.length ≤ 40 := by
    unfold withB
    split
    · simp only [List.length_set]; omega
    · simp only; omega
  have hn := withB_len b c p s
  simp only [hugeB, Bool.or_eq_false_iff, decide_eq_false_iff_not, List.any_eq_false, decide_eq_true_eq]
  refine ⟨by omega, by omega, fun l h => ?_⟩
  have := hl l h
  omega

theorem many_ok {b : Bk} (hc0 : checkB b = true) : manyR2 b = (((allNs b).length : Int), 0) := by
  unfold manyR2
  rw [hc0, if_pos rfl]

theorem c34k (b : Bk) (hs : Small b) (hc0 : checkB b = true) : Ctr Try.prog 34 [KB b] (.tup [.int ((allNs b).length : Nat), .int 0]) := by
  have := c34r b hs
  rw [many_ok hc0] at this
  exact this

theorem c23k (b : Bk) (hs : Small b) (hc0 : checkB b = true) : Ctr Try.prog 23 [KB b] (.tup [.int (leastB b), .int 0]) := by
  have := c23 b hs
  rw [hc0, if_pos rfl, least_k (val_of_check hc0)] at this
  exact this

theorem least_pos {b : Bk} (hv : Val b) : 0 ≤ leastB b := by
  obtain ⟨_, l, _, h2⟩ := least_spec hv
  have := (costN_bd hv l).1
  omega

end Go.Proofs.Ytkkiipjfbebipaa

/- KnotsClear. -/
set_option linter.unusedSimpArgs false
set_option linter.unusedVariables false
set_option linter.unnecessarySimpa false
namespace Go.Proofs.Ytkkiipjfbebipaa
open Go Go.V

theorem c5 (b : Bk) (h1 : b.cords.length < 9223372036854775808) (n c p : Int) (s : Sp) : Ctr Try.prog 5 [KB b, .agg [.int n, .int c, .int p], SP s] (.bool true) := by
  refine ctr_of_wp hmix Try.func5 m5 rfl ?_
  unfold v5
  simp -failIfUnchanged (disch := first | omega | (simp [wcs_len] <;> omega) | fail) only [go_sem, simprocAttr]
  refine wcall (c28 b h1) ?_
  cases hrd : (!hugeB b && checkB b) with
  | false =>
    simp -failIfUnchanged (disch := first | omega | (simp [wcs_len] <;> omega) | fail) only [go_sem, simprocAttr]
    refine wcall c17 ?_
    simp -failIfUnchanged (disch := first | omega | (simp [wcs_len] <;> omega) | fail) only [go_sem, simprocAttr]
  | true =>
    simp only [Bool.and_eq_true, Bool.not_eq_true'] at hrd
    obtain ⟨hh, hc0⟩ := hrd
    have hs := small_small hh
    have hv := val_of_check hc0
    have hcl := hv.hc
    simp -failIfUnchanged (disch := first | omega | (simp [wcs_len] <;> omega) | fail) only [go_sem, simprocAttr]
    refine WGd_bool (fun h3 => ?_) (fun h3 => ?_)
    · simp -failIfUnchanged (disch := first | omega | (simp [wcs_len] <;> omega) | fail) only [go_sem, simprocAttr, h3]
      refine wcall (c29 b c) ?_
      cases h4 : within c 0 b.cords.length with
      | false =>
        simp -failIfUnchanged (disch := first | omega | (simp [wcs_len] <;> omega) | fail) only [go_sem, simprocAttr]
        refine wcall c17 ?_
        simp -failIfUnchanged (disch := first | omega | (simp [wcs_len] <;> omega) | fail) only [go_sem, simprocAttr]
      | true =>
        simp -failIfUnchanged (disch := first | omega | (simp [wcs_len] <;> omega) | fail) only [go_sem, simprocAttr]
        refine wcall (c30 b p) ?_
        cases h5 : within p 0 (w64 (b.places - 1)) with
        | false =>
          simp -failIfUnchanged (disch := first | omega | (simp [wcs_len] <;> omega) | fail) only [go_sem, simprocAttr]
          refine wcall c17 ?_
          simp -failIfUnchanged (disch := first | omega | (simp [wcs_len] <;> omega) | fail) only [go_sem, simprocAttr]
        | true =>
          have hpp := hv.hp
          obtain ⟨cn, rfl, hcn⟩ : ∃ cn : Nat, c = cn ∧ cn ≤ b.cords.length := ⟨c.toNat, by simp [within] at h4; omega, by simp [within] at h4; omega⟩
          obtain ⟨pn, rfl, hpn⟩ : ∃ pn : Nat, p = pn ∧ pn < b.places.toNat := ⟨p.toNat, by simp [within] at h5; omega, by rw [w64_id (by omega)] at h5; simp [within] at h5; omega⟩
          simp -failIfUnchanged (disch := first | omega | (simp [wcs_len] <;> omega) | fail) only [go_sem, simprocAttr]
          refine WGd_bool (fun h6 => ?_) (fun h6 => ?_)
          · simp -failIfUnchanged (disch := first | omega | (simp [wcs_len] <;> omega) | fail) only [go_sem, simprocAttr, h6]
            refine wcall (c32 b cn hcn) ?_
            have hlen : (cordAt b cn).length = b.places.toNat := by have := (cordAt_val hv hcn).1; omega
            simp -failIfUnchanged (disch := first | omega | (simp [wcs_len] <;> omega) | fail) only [go_sem, simprocAttr]
            refine wcall (c31 s ((cordAt b cn)[pn]?.getD default)) ?_
            cases h7 : (decide (((cordAt b cn)[pn]?.getD default).lo ≤ s.lo) && (decide (s.lo ≤ s.hi) && decide (s.hi ≤ ((cordAt b cn)[pn]?.getD default).hi))) with
            | false =>
              simp -failIfUnchanged (disch := first | omega | (simp [wcs_len] <;> omega) | fail) only [go_sem, simprocAttr]
              refine wcall c17 ?_
              simp -failIfUnchanged (disch := first | omega | (simp [wcs_len] <;> omega) | fail) only [go_sem, simprocAttr]
            | true =>
              simp only [Bool.and_eq_true, decide_eq_true_eq] at h7
              obtain ⟨hin1, hle, hin2⟩ := h7
              obtain ⟨hc1, hc2⟩ := cordAt_val hv hcn
              have hsp := hc2 _ (mem_getD (show pn < (cordAt b cn).length by omega))
              have hss : 0 ≤ s.lo ∧ s.lo ≤ s.hi ∧ s.hi < b.base := ⟨by omega, hle, by omega⟩
              have hin : (cordSp b cn pn).lo ≤ s.lo ∧ s.hi ≤ (cordSp b cn pn).hi := ⟨hin1, hin2⟩
              have c33' := c33r b hv cn pn s hcn hpn
              have hv' := val_with hv (p := pn) hcn hss
              have hc0' := check_of_val hv'
              have hs' := small_with hv cn pn s
              have hsub := allNs_with hv hcn hpn hss hin
              have hlm := least_mono hv hcn hpn hv' (fun d => cost_in hin d)
              have hsw : ∀ (_ : 0 < (allNs (withB b cn pn s)).length) {e : Nat} (_ : e ≤ b.cords.length), _ := fun h {e} he => sure_with hc0 hcn hpn hss hin hc0' h he
              have hll : (allNs (withB b cn pn s)).length ≤ (allNs b).length := by rw [hsub]; exact List.length_filter_le _ _
              have hwl := withB_len b cn pn s
              have hl0 := least_pos hv
              generalize withB b cn pn s = b' at *
              have e1 : decide (((allNs b').length : Int) < 0) = false := by simp
              have e2 : decide (((allNs b).length : Int) < ((allNs b').length : Int)) = false := by simp; omega
              have e3 : decide (leastB b < 0) = false := by simp; omega
              have e4 : decide (leastB b' < leastB b) = false := by simp; omega
              simp -failIfUnchanged (disch := first | omega | (simp [wcs_len] <;> omega) | fail) only [go_sem, simprocAttr]
              refine wcall c33' ?_
              simp -failIfUnchanged (disch := first | omega | (simp [wcs_len] <;> omega) | fail) only [go_sem, simprocAttr]
              refine wcall (c34k b hs hc0) ?_
              simp -failIfUnchanged (disch := first | omega | (simp [wcs_len] <;> omega) | fail) only [go_sem, simprocAttr]
              refine wcall (c34k b' hs' hc0') ?_
              simp -failIfUnchanged (disch := first | omega | (simp [wcs_len] <;> omega) | fail) only [go_sem, simprocAttr]
              refine wcall (c23k b hs hc0) ?_
              simp -failIfUnchanged (disch := first | omega | (simp [wcs_len] <;> omega) | fail) only [go_sem, simprocAttr]
              refine wcall (c23k b' hs' hc0') ?_
              simp -failIfUnchanged (disch := first | omega | (simp [wcs_len] <;> omega) | fail) only [go_sem, simprocAttr, e1, e2, e3, e4]
              refine wp_loop' Nat (fun i => ⟨[(3, .ptr 3 0), (7, .ptr 7 0), (10, .int ((allNs b').length : Nat)), (16, .int (i : Nat))],
                [(7, ⟨[.int b'.base, .int b'.places, .sl 1 (b'.cords.map SS) .sh, SS b'.top], false⟩), (3, ⟨[.int b.base, .int b.places, .sl 1 (b.cords.map SS) .sh, SS b.top], false⟩)], [], none⟩)
                (fun i => i ≤ b.cords.length + 1) (fun i => b.cords.length + 1 - i) 0 (by simp) (by simp -failIfUnchanged (disch := first | omega | (simp [wcs_len] <;> omega) | fail) only [go_sem, simprocAttr]; try simp) ?_
              intro i hi
              simp -failIfUnchanged (disch := first | omega | (simp [wcs_len] <;> omega) | fail) only [go_sem, simprocAttr]
              refine WGd_bool (fun h8 => ?_) (fun h8 => ?_)
              · have hil : i ≤ b.cords.length := by simp at h8; omega
                simp -failIfUnchanged (disch := first | omega | (simp [wcs_len] <;> omega) | fail) only [go_sem, simprocAttr, h8]
                refine wcond_dec (fun h9 => ?_) (fun h9 => ?_)
                · obtain ⟨u, v, q1, q2, q3, q4, q5⟩ := hsw (by omega) hil
                  simp -failIfUnchanged (disch := first | omega | (simp [wcs_len] <;> omega) | fail) only [go_sem, simprocAttr]
                  refine wcall (c35r b hs i) ?_
                  rw [q1]
                  simp -failIfUnchanged (disch := first | omega | (simp [wcs_len] <;> omega) | fail) only [go_sem, simprocAttr]
                  refine wcall (c35r b' hs' i) ?_
                  rw [q2]
                  simp -failIfUnchanged (disch := first | omega | (simp [wcs_len] <;> omega) | fail) only [go_sem, simprocAttr]
                  refine wcall (c31 v u) ?_
                  have e5 : (decide (u.lo ≤ v.lo) && (decide (v.lo ≤ v.hi) && decide (v.hi ≤ u.hi))) = true := by simp [q3, q4, q5]
                  simp -failIfUnchanged (disch := first | omega | (simp [wcs_len] <;> omega) | fail) only [go_sem, simprocAttr, e5]
                  refine ⟨i + 1, by dsimp only; omega, by dsimp only; omega, ?_⟩
                  simp -failIfUnchanged (disch := first | omega | (simp [wcs_len] <;> omega) | fail) only [go_sem, simprocAttr]
                  try simp
                · simp -failIfUnchanged (disch := first | omega | (simp [wcs_len] <;> omega) | fail) only [go_sem, simprocAttr]
                  refine wcall c17 ?_
                  simp -failIfUnchanged (disch := first | omega | (simp [wcs_len] <;> omega) | fail) only [go_sem, simprocAttr]
              · simp -failIfUnchanged (disch := first | omega | (simp [wcs_len] <;> omega) | fail) only [go_sem, simprocAttr, h8]
                refine wcall c17 ?_
                simp -failIfUnchanged (disch := first | omega | (simp [wcs_len] <;> omega) | fail) only [go_sem, simprocAttr]
          · simp -failIfUnchanged (disch := first | omega | (simp [wcs_len] <;> omega) | fail) only [go_sem, simprocAttr, h6]
            refine wcall c17 ?_
            simp -failIfUnchanged (disch := first | omega | (simp [wcs_len] <;> omega) | fail) only [go_sem, simprocAttr]
    · simp -failIfUnchanged (disch := first | omega | (simp [wcs_len] <;> omega) | fail) only [go_sem, simprocAttr, h3]
      refine wcall c17 ?_
      simp -failIfUnchanged (disch := first | omega | (simp [wcs_len] <;> omega) | fail) only [go_sem, simprocAttr]

end Go.Proofs.Ytkkiipjfbebipaa
