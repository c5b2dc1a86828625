/- Merged by program: T424, T425, T426, T428, T429, T430, T431, T432, T433, T434, T434b, T435, T436, T437, T438, T439, T440, T441, T442, T443, T444, T445, T446, T447, T448, T449, T450, T451a, T455, T456, T601, T605, T606, T607, T608, T609, T610, T611, T612, T613, T614, T615, T616, T617, T618, T619, T620, T621, T622, T623, T624, T625, T626, T627, T629, T631, T632, T633, T634, T635, T637, T638. -/
import Derived.Test.YtggnmemkhookdaaGreatDoorM4
import Derived.ProofKit
import Derived.Test.YtggnmemkhookdaaGreatDoorChecked
import Derived.DeepKeys4
set_option linter.unusedSimpArgs false
set_option linter.unusedVariables false
set_option linter.unnecessarySimpa false
namespace Go.Proofs.YtggnmemkhookdaaGreatDoor.Kn
open Go Go.V
def mostT (b : Bk) (k : Nat) : Int := (List.range k).foldl (fun m _ => w64 (m * min 10 (max 1 b.base))) 1
theorem mostT_succ (b : Bk) (k : Nat) : mostT b (k + 1) = w64 (mostT b k * min 10 (max 1 b.base)) := by
 unfold mostT
 rw [List.range_succ, List.foldl_append]
 rfl
theorem mostT_eq {b : Bk} (hb : 2 ≤ b.base ∧ b.base ≤ 10) : ∀ k, k ≤ 4 → mostT b k = ((b.base.toNat ^ k : Nat) : Int) ∧ b.base.toNat ^ k ≤ 10 ^ k
 | 0, _ => by simp [mostT]
 | k + 1, h => by
  obtain ⟨ih1, ih2⟩ := mostT_eq hb k (by omega)
  have hk : (10 : Nat) ^ k ≤ 1000 := by
   have : k = 0 ∨ k = 1 ∨ k = 2 ∨ k = 3 := by omega
   rcases this with rfl | rfl | rfl | rfl <;> decide
  have e : min 10 (max 1 b.base) = ((b.base.toNat : Nat) : Int) := by omega
  have hB : b.base.toNat ≤ 10 := by omega
  have h3 : b.base.toNat ^ k * b.base.toNat ≤ 10 ^ k * 10 := Nat.mul_le_mul ih2 hB
  refine ⟨?_, by rw [Nat.pow_succ, Nat.pow_succ]; exact h3⟩
  rw [mostT_succ, ih1, e, ← Int.natCast_mul, ← Nat.pow_succ, w64_id]
  rw [← Nat.pow_succ] at h3
  omega
theorem c21t (b : Bk) (hs : Small b) (n : Int) : Ctr Tryz.prog 21 [KB b, .int n]
  (if checkB b then
   if within n 0 (w64 (mostT b (min 4 (max 0 b.places)).toNat - 1)) then .tup [.sl 1 ((tieN b.base.toNat b.places.toNat n.toNat).map .int) .sh, .int 0] else .tup [.sl 1 [] .sh, .int 1]
  else .tup [.sl 1 [] .sh, .int 110]) := by
 refine ctr_of_wp hmix Tryz.func21 m21 rfl ?_
 unfold v21
 simp -failIfUnchanged (disch := first|omega|(simp [wcs_len]<;>omega)|fail) only [go_sem,simprocAttr]
 obtain ⟨K, hK⟩ : ∃ K : Nat, min 4 (max 0 b.places) = K := ⟨(min 4 (max 0 b.places)).toNat, by omega⟩
 rw [hK, Int.toNat_natCast]
 refine wp_loop' (Nat × Int) (fun x => ⟨[(2, .ptr 2 0), (3, .ptr 3 0), (6, .int x.2), (13, .int K), (14, .int x.1)],
  [(3, ⟨[.int n], false⟩), (2, ⟨[.int b.base, .int b.places, .sl 1 (b.cords.map SS) .sh, SS b.top], false⟩)], [], none⟩) (fun x => x.1 ≤ K ∧ x.2 = mostT b x.1) (fun x => K - x.1) (0, mostT b 0) ⟨by simp, rfl⟩ (by simp -failIfUnchanged (disch := first|omega|(simp [wcs_len]<;>omega)|fail) only [go_sem,simprocAttr]; try simp [mostT]) ?_
 rintro ⟨i, m⟩ ⟨hi, hm⟩
 dsimp only at hi hm ⊢
 simp -failIfUnchanged (disch := first|omega|(simp [wcs_len]<;>omega)|fail) only [go_sem,simprocAttr]
 refine wcond_dec (fun h => ?_) (fun h => ?_)
 ·simp -failIfUnchanged (disch := first|omega|(simp [wcs_len]<;>omega)|fail) only [go_sem,simprocAttr]
  refine ⟨(i + 1, mostT b (i + 1)), ⟨by dsimp only; omega, rfl⟩, by dsimp only; omega, ?_⟩
  rw [mostT_succ, ← hm]
  simp -failIfUnchanged (disch := first|omega|(simp [wcs_len]<;>omega)|fail) only [go_sem,simprocAttr]
  try simp
 ·have ei : i = K := by omega
  subst ei
  rw [hm]
  simp -failIfUnchanged (disch := first|omega|(simp [wcs_len]<;>omega)|fail) only [go_sem,simprocAttr]
  refine wcall (c48 _ _ _) ?_
  simp -failIfUnchanged (disch := first|omega|(simp [wcs_len]<;>omega)|fail) only [go_sem,simprocAttr]
  refine wcall (c24 b hs _) ?_
  cases hc : checkB b with
  | false => simp -failIfUnchanged (disch := first|omega|(simp [wcs_len]<;>omega)|fail) only [go_sem,simprocAttr]
  | true =>
   cases hw : within n 0 (w64 (mostT b i - 1)) with
   | false => simp -failIfUnchanged (disch := first|omega|(simp [wcs_len]<;>omega)|fail) only [go_sem,simprocAttr]
   | true =>
    have hv := val_of_check hc
    obtain ⟨hb1, hb2⟩ := hv.hb
    obtain ⟨hp1, hp2⟩ := hv.hp
    obtain ⟨P, hP⟩ : ∃ P, b.places.toNat = P := ⟨_, rfl⟩
    have hPi : b.places = (P : Int) := by omega
    have hiP : i = P := by omega
    subst hiP
    obtain ⟨hm1, hm2⟩ := mostT_eq hv.hb i (by omega)
    have h10 : (10 : Nat) ^ i ≤ 10000 := by
     have : i = 1 ∨ i = 2 ∨ i = 3 ∨ i = 4 := by omega
     rcases this with rfl | rfl | rfl | rfl <;> decide
    have hw2 : 0 ≤ n ∧ n ≤ w64 (mostT b i - 1) := by simpa [within] using hw
    rw [hm1, w64_id (by omega)] at hw2
    obtain ⟨n0, rfl⟩ : ∃ m : Nat, n = m := ⟨n.toNat, by omega⟩
    have em : ∀ n : Nat, Int.tmod (n : Int) b.base = ((n % b.base.toNat : Nat) : Int) := fun n => by
     obtain ⟨B, hB⟩ : ∃ B : Nat, b.base = B := ⟨b.base.toNat, by omega⟩
     rw [hB]; rfl
    have eq : ∀ n : Nat, Int.tdiv (n : Int) b.base = ((n / b.base.toNat : Nat) : Int) := fun n => by
     obtain ⟨B, hB⟩ : ∃ B : Nat, b.base = B := ⟨b.base.toNat, by omega⟩
     rw [hB]; rfl
    rw [hP]
    simp -failIfUnchanged (disch := first|omega|(simp [wcs_len]<;>omega)|fail) only [go_sem,simprocAttr, hPi]
    refine wcall_in hmix Tryz.func49 m49 rfl ?_
    unfold v49
    simp -failIfUnchanged (disch := first|omega|(simp [wcs_len]<;>omega)|fail) only [go_sem,simprocAttr]
    refine wp_range' ?_
    simp -failIfUnchanged (disch := first|omega|(simp [wcs_len]<;>omega)|fail) only [go_sem,simprocAttr]
    refine wrangew fun l T hT => ?_
    refine csem_of_wp hmix Tryz.func73 m73 rfl rfl ?_
    unfold v73
    simp -failIfUnchanged (disch := first|omega|(simp [wcs_len]<;>omega)|fail) only [go_sem,simprocAttr]
    refine wp_loopX (Nat × Nat × List Int) (fun x => ⟨[(0, .yld l), (1, .ptr 3001 0), (3, .int ((x.1 : Int) - 1))],
     [(3001, ⟨[.bsl 34 0 1 i false], false⟩), (8, ⟨[.bsl 34 0 1 i false], false⟩), (34, ⟨(List.replicate x.1 (0 : Int) ++ x.2.2).map .int, false⟩), (3, ⟨[.int x.2.1], false⟩), (2, ⟨[.int b.base, .int i, .sl 1 (b.cords.map SS) .sh, SS b.top], false⟩)], [], none⟩)
     (fun x => x.1 ≤ i ∧ x.2.1 < 4294967296 ∧ x.2.2.length = i - x.1 ∧ tieN b.base.toNat x.1 x.2.1 ++ x.2.2 = tieN b.base.toNat i n0) (fun x => x.1) (i, n0, []) ⟨by simp, by dsimp only; omega, by simp, by simp⟩ (by simp -failIfUnchanged (disch := first|omega|(simp [wcs_len]<;>omega)|fail) only [go_sem,simprocAttr]) (fun x => by simp -failIfUnchanged (disch := first|omega|(simp [wcs_len]<;>omega)|fail) only [go_sem,simprocAttr]) ?_
    rintro ⟨q, m, suf⟩ ⟨hq, hm, hsl, hsuf⟩
    dsimp only at hq hm hsl hsuf ⊢
    simp -failIfUnchanged (disch := first|omega|(simp [wcs_len]<;>omega)|fail) only [go_sem,simprocAttr]
    refine wcond_dec (fun h => ?_) (fun h => ?_)
    ·obtain ⟨k, rfl⟩ : ∃ k, q = k + 1 := ⟨q - 1, by omega⟩
     rw [show ((k + 1 : Nat) : Int) - 1 = (k : Int) by omega]
     have hlen : (List.replicate (k + 1) (0 : Int) ++ suf).length = i := by simp; omega
     have hset : (List.replicate (k + 1) (0 : Int) ++ suf).set k ((m % b.base.toNat : Nat) : Int) = List.replicate k 0 ++ ((m % b.base.toNat : Nat) : Int) :: suf := by
      rw [List.replicate_succ', List.append_assoc, List.set_append_right _ _ (by simp)]
      simp
     have hdiv : m / b.base.toNat ≤ m := Nat.div_le_self _ _
     obtain ⟨m2, hm2⟩ : ∃ m2, m / b.base.toNat = m2 := ⟨_, rfl⟩
     rw [hm2] at hdiv
     generalize hxs : List.replicate (k + 1) (0 : Int) ++ suf = xs at hlen hset
     simp -failIfUnchanged (disch := first|omega|(simp [wcs_len]<;>omega)|fail) only [go_sem,simprocAttr]
     refine wyield (hT _ _ _ _ _ rfl ?_)
     simp -failIfUnchanged (disch := first|omega|(simp [wcs_len]<;>omega)|fail) only [go_sem,simprocAttr, em, eq, hm2]
     refine ⟨(k, m2, ((m % b.base.toNat : Nat) : Int) :: suf), ⟨by dsimp only; omega, by dsimp only; omega, by simp only [List.length_cons]; omega, ?_⟩, by dsimp only; omega, ?_⟩
     ·rw [← hsuf]
      simp [tieN, hm2]
     ·simp -failIfUnchanged (disch := first|omega|(simp [wcs_len]<;>omega)|fail) only [go_sem,simprocAttr, hset]
    ·simp -failIfUnchanged (disch := first|omega|(simp [wcs_len]<;>omega)|fail) only [go_sem,simprocAttr]
     have e : q = 0 := by omega
     subst e
     simp only [List.replicate_zero, List.nil_append] at hsuf ⊢
     have hs2 : suf.length = i := by omega
     have e2 : suf = tieN b.base.toNat i n0 := by
      rw [← hsuf]
      rfl
     rw [if_pos (by omega), chunks_ints hs2.symm, e2]
     exact ⟨rfl, rfl⟩
end Go.Proofs.YtggnmemkhookdaaGreatDoor.Kn

set_option linter.unusedSimpArgs false
set_option linter.unusedVariables false
set_option linter.unnecessarySimpa false
namespace Go.Proofs.YtggnmemkhookdaaGreatDoor.Kn
open Go Go.V
def endsL (base : Int) (l : List Sp) : Sp := l.foldl (fun o s => ⟨numL base [o.lo, s.lo], numL base [o.hi, s.hi]⟩) ⟨0, 0⟩
theorem c26 (base : Int) (l : List Sp) (hl : l.length < 4294967296) : Ctr Tryz.prog 26 [.int base, SS l] (SP (endsL base l)) := by
 refine ctr_of_wp hmix Tryz.func26 m26 rfl ?_
 unfold v26
 simp -failIfUnchanged (disch := first|omega|(simp [wcs_len]<;>omega)|fail) only [go_sem,simprocAttr]
 refine wp_loop' (Nat × Sp) (fun x => ⟨[(0, .int base), (4, .ptr 4 0), (5, .ptr 5 0), (8, SS l), (9, .int l.length), (10, .int x.1)], [(5, ⟨[.int x.2.lo, .int x.2.hi], false⟩), (4, ⟨[.int 0, .int 0], false⟩)], [], none⟩) (fun x => x.1 ≤ l.length ∧ x.2 = endsL base (l.take x.1)) (fun x => l.length - x.1) (0, ⟨0, 0⟩) (by simp [endsL]) (by simp -failIfUnchanged (disch := first|omega|(simp [wcs_len]<;>omega)|fail) only [go_sem,simprocAttr]; try simp) ?_
 rintro ⟨i, o⟩ ⟨hi, ho⟩
 dsimp only at hi ho ⊢
 simp -failIfUnchanged (disch := first|omega|(simp [wcs_len]<;>omega)|fail) only [go_sem,simprocAttr]
 refine wcond_dec (fun h => ?_) (fun h => ?_)
 ·have hlt : i < l.length := by omega
  obtain ⟨s, hsp⟩ : ∃ s, l[i]?.getD default = s := ⟨_, rfl⟩
  simp -failIfUnchanged (disch := first|omega|(simp [wcs_len]<;>omega)|fail) only [go_sem,simprocAttr, hsp]
  refine wcall (c39 base [o.lo, s.lo] (by simp)) ?_
  simp -failIfUnchanged (disch := first|omega|(simp [wcs_len]<;>omega)|fail) only [go_sem,simprocAttr]
  refine wcall (c39 base [o.hi, s.hi] (by simp)) ?_
  simp -failIfUnchanged (disch := first|omega|(simp [wcs_len]<;>omega)|fail) only [go_sem,simprocAttr]
  have e : endsL base (l.take (i + 1)) = ⟨numL base [o.lo, s.lo], numL base [o.hi, s.hi]⟩ := by
   rw [List.take_add_one, List.getElem?_eq_getElem hlt, endsL, List.foldl_append]
   have : l[i] = s := by rw [← hsp]; simp [hlt]
   simp only [Option.toList_some, List.foldl_cons, List.foldl_nil, this]
   rw [show List.foldl _ _ (l.take i) = endsL base (l.take i) from rfl, ← ho]
  refine ⟨(i + 1, ⟨numL base [o.lo, s.lo], numL base [o.hi, s.hi]⟩), ⟨by dsimp only; omega, e.symm⟩, by dsimp only; omega, ?_⟩
  simp -failIfUnchanged (disch := first|omega|(simp [wcs_len]<;>omega)|fail) only [go_sem,simprocAttr]
  try simp
 ·simp -failIfUnchanged (disch := first|omega|(simp [wcs_len]<;>omega)|fail) only [go_sem,simprocAttr]
  have e : i = l.length := by omega
  rw [ho, e, List.take_length]
theorem allC_small {b : Bk} (hs : Small b) : ∀ l ∈ allC b, l.length < 4294967296 := by
 intro l hl
 rcases List.mem_append.1 hl with h | h
 ·exact hs.each l h
 ·simp at h; subst h; exact hs.top
theorem c8 (b : Bk) (hs : Small b) (c : Int) : Ctr Tryz.prog 8 [KB b, .int c]
  (if checkB b then
   if within c 0 b.cords.length then .tup [SP (endsL b.base ((allC b)[c.toNat]?.getD default)), .int 0] else .tup [SP ⟨0, 0⟩, .int 1]
  else .tup [SP ⟨0, 0⟩, .int 110]) := by
 refine ctr_of_wp hmix Tryz.func8 m8 rfl ?_
 unfold v8
 simp -failIfUnchanged (disch := first|omega|(simp [wcs_len]<;>omega)|fail) only [go_sem,simprocAttr]
 refine wcall (c25 b c) ?_
 simp -failIfUnchanged (disch := first|omega|(simp [wcs_len]<;>omega)|fail) only [go_sem,simprocAttr]
 refine wcall (c24 b hs _) ?_
 cases hc : checkB b with
 | false => simp -failIfUnchanged (disch := first|omega|(simp [wcs_len]<;>omega)|fail) only [go_sem,simprocAttr]
 | true =>
  cases h1 : within c 0 b.cords.length with
  | false => simp -failIfUnchanged (disch := first|omega|(simp [wcs_len]<;>omega)|fail) only [go_sem,simprocAttr]
  | true =>
   have h1' : 0 ≤ c ∧ c ≤ b.cords.length := by simpa [within] using h1
   obtain ⟨m, rfl⟩ : ∃ m : Nat, c = m := ⟨c.toNat, by omega⟩
   have hal : (allC b).length = b.cords.length + 1 := by simp [allC]
   simp -failIfUnchanged (disch := first|omega|(simp [wcs_len]<;>omega)|fail) only [go_sem,simprocAttr]
   refine wcall (c27 b hs) ?_
   have hmem := allC_small hs _ (mem_getD (l := allC b) (i := m) (by omega))
   obtain ⟨l, hl⟩ : ∃ l, (allC b)[m]?.getD default = l := ⟨_, rfl⟩
   rw [hl] at hmem
   simp -failIfUnchanged (disch := first|omega|(simp [wcs_len]<;>omega)|fail) only [go_sem,simprocAttr, hl]
   refine wcall (c26 b.base l hmem) ?_
   simp -failIfUnchanged (disch := first|omega|(simp [wcs_len]<;>omega)|fail) only [go_sem,simprocAttr]
end Go.Proofs.YtggnmemkhookdaaGreatDoor.Kn

set_option linter.unusedSimpArgs false
set_option linter.unusedVariables false
set_option linter.unnecessarySimpa false
namespace Go.Proofs.YtggnmemkhookdaaGreatDoor.Kn
open Go Go.V
end Go.Proofs.YtggnmemkhookdaaGreatDoor.Kn

set_option linter.unusedSimpArgs false
set_option linter.unusedVariables false
set_option linter.unnecessarySimpa false
namespace Go.Proofs.YtggnmemkhookdaaGreatDoor.Kn
def sumF {α : Type} (l : List α) (f : α → Nat) : Nat := (l.map f).sum
section
variable {α β : Type}
theorem sumF_nil (f : α → Nat) : sumF [] f = 0 := rfl
theorem sumF_cons (a : α) (l : List α) (f : α → Nat) : sumF (a :: l) f = f a + sumF l f := by simp [sumF]
theorem sumF_append (l k : List α) (f : α → Nat) : sumF (l ++ k) f = sumF l f + sumF k f := by simp [sumF]
theorem sumF_map (l : List α) (g : α → β) (f : β → Nat) : sumF (l.map g) f = sumF l fun a => f (g a) := by simp [sumF, Function.comp_def]
theorem sumF_congr {l : List α} {f g : α → Nat} (h : ∀ a ∈ l, f a = g a) : sumF l f = sumF l g := by
 induction l with
 | nil => rfl
 | cons a r ih => rw [sumF_cons, sumF_cons, h a (by simp), ih fun b hb => h b (by simp [hb])]
theorem sumF_flatMap (l : List α) (g : α → List β) (f : β → Nat) : sumF (l.flatMap g) f = sumF l fun a => sumF (g a) f := by
 induction l with
 | nil => rfl
 | cons a r ih => rw [List.flatMap_cons, sumF_append, ih, sumF_cons]
theorem sumF_filter (l : List α) (p : α → Bool) (f : α → Nat) : sumF (l.filter p) f = sumF l fun a => if p a then f a else 0 := by
 induction l with
 | nil => rfl
 | cons a r ih =>
  rw [sumF_cons, ← ih]
  by_cases h : p a
  ·rw [List.filter_cons_of_pos h, sumF_cons, if_pos h]
  ·rw [List.filter_cons_of_neg h, if_neg h, Nat.zero_add]
theorem sumF_zero (l : List α) : (sumF l fun _ => 0) = 0 := by
 induction l with
 | nil => rfl
 | cons a r ih => rw [sumF_cons, ih]
theorem sumF_add (l : List α) (f g : α → Nat) : (sumF l fun a => f a + g a) = sumF l f + sumF l g := by
 induction l with
 | nil => rfl
 | cons a r ih => rw [sumF_cons, sumF_cons, sumF_cons, ih]; omega
theorem sumF_comm (l : List α) (k : List β) (f : α → β → Nat) : (sumF l fun a => sumF k (f a)) = sumF k fun b => sumF l fun a => f a b := by
 induction l with
 | nil => simp only [sumF_nil, sumF_zero]
 | cons a r ih =>
  rw [sumF_cons, ih, ← sumF_add]
  exact sumF_congr fun b _ => by rw [sumF_cons]
theorem sumF_if (c : Prop) [Decidable c] (l : List α) (f : α → Nat) : (if c then sumF l f else 0) = sumF l fun a => if c then f a else 0 := by
 by_cases h : c
 ·simp only [if_pos h]
 ·simp only [if_neg h, sumF_zero]
theorem sumF_pos {l : List α} {f : α → Nat} : 0 < sumF l f ↔ ∃ a ∈ l, 0 < f a := by
 induction l with
 | nil => simp [sumF_nil]
 | cons a r ih =>
  rw [sumF_cons]
  constructor
  ·intro h
   by_cases h1 : 0 < f a
   ·exact ⟨a, by simp, h1⟩
   ·obtain ⟨b, hb, h2⟩ := ih.1 (by omega)
    exact ⟨b, by simp [hb], h2⟩
  ·rintro ⟨b, hb, h⟩
   rcases List.mem_cons.1 hb with rfl | hb
   ·omega
   ·have := ih.2 ⟨b, hb, h⟩
    omega
theorem sumF_le {l : List α} {f g : α → Nat} (h : ∀ a ∈ l, f a ≤ g a) : sumF l f ≤ sumF l g := by
 induction l with
 | nil => simp [sumF_nil]
 | cons a r ih =>
  rw [sumF_cons, sumF_cons]
  have := h a (by simp)
  have := ih fun b hb => h b (by simp [hb])
  omega
theorem sumF_len (l : List α) : (sumF l fun _ => 1) = l.length := by
 induction l with
 | nil => rfl
 | cons a r ih => rw [sumF_cons, ih, List.length_cons]; omega
theorem sumF_range_succ (n : Nat) (f : Nat → Nat) : sumF (List.range (n + 1)) f = sumF (List.range n) f + f n := by
 rw [List.range_succ, sumF_append, sumF_cons, sumF_nil, Nat.add_zero]
theorem sumF_range_add (n m : Nat) (f : Nat → Nat) : sumF (List.range (n + m)) f = sumF (List.range n) f + sumF (List.range m) fun t => f (n + t) := by
 induction m with
 | zero => simp [sumF_nil]
 | succ m ih => rw [← Nat.add_assoc, sumF_range_succ, ih, sumF_range_succ, Nat.add_assoc]
theorem sumF_range_mul (B N : Nat) (f : Nat → Nat) : sumF (List.range (B * N)) f = sumF (List.range B) fun d => sumF (List.range N) fun t => f (d * N + t) := by
 induction B with
 | zero => simp [sumF_nil]
 | succ B ih => rw [Nat.succ_mul, sumF_range_add, ih, sumF_range_succ]
end
def tup : Nat → Nat → List (List Nat)
 | 0, _ => [[]]
 | m + 1, N => (List.range N).flatMap fun n => (tup m N).map fun t => n :: t
theorem tup_mem {m N : Nat} : ∀ {t : List Nat}, t ∈ tup m N ↔ t.length = m ∧ ∀ x ∈ t, x < N := by
 induction m with
 | zero =>
  intro t
  simp only [tup, List.mem_singleton]
  constructor
  ·rintro rfl; simp
  ·rintro ⟨h, _⟩; exact List.eq_nil_of_length_eq_zero h
 | succ m ih =>
  intro t
  simp only [tup, List.mem_flatMap, List.mem_range, List.mem_map]
  constructor
  ·rintro ⟨n, hn, u, hu, rfl⟩
   obtain ⟨h1, h2⟩ := ih.1 hu
   refine ⟨by simp [h1], fun x hx => ?_⟩
   rcases List.mem_cons.1 hx with rfl | hx
   ·exact hn
   ·exact h2 x hx
  ·rintro ⟨h1, h2⟩
   cases t with
   | nil => simp at h1
   | cons n u => exact ⟨n, h2 n (by simp), u, ih.2 ⟨by simpa using h1, fun x hx => h2 x (by simp [hx])⟩, rfl⟩
theorem sumF_tup_succ (m N : Nat) (f : List Nat → Nat) : sumF (tup (m + 1) N) f = sumF (List.range N) fun n => sumF (tup m N) fun t => f (n :: t) := by
 rw [tup, sumF_flatMap]
 exact sumF_congr fun n _ => by rw [sumF_map]
def comb (N : Nat) : List Nat → List Nat → List Nat
 | d :: ds, t :: ts => (d * N + t) :: comb N ds ts
 | _, _ => []
theorem sumF_tup_mul (B N : Nat) : ∀ (m : Nat) (f : List Nat → Nat), sumF (tup m (B * N)) f = sumF (tup m N) fun t => sumF (tup m B) fun d => f (comb N d t)
 | 0, f => by simp [tup, sumF_cons, sumF_nil, comb]
 | m + 1, f => by
  rw [sumF_tup_succ, sumF_range_mul, sumF_tup_succ]
  have : (fun d => sumF (List.range N) fun t => sumF (tup m (B * N)) fun u => f ((d * N + t) :: u)) = fun d => sumF (List.range N) fun t => sumF (tup m N) fun u => sumF (tup m B) fun e => f ((d * N + t) :: comb N e u) := by
   funext d
   congr 1
   funext t
   exact sumF_tup_mul B N m _
  rw [this, sumF_comm]
  refine sumF_congr fun t _ => ?_
  rw [sumF_comm]
  refine sumF_congr fun u _ => ?_
  rw [sumF_tup_succ]
  rfl
theorem comb_low {N : Nat} : ∀ {d t : List Nat}, d.length = t.length → (∀ x ∈ t, x < N) → (comb N d t).map (· % N) = t ∧ (comb N d t).map (· / N) = d
 | [], [], _, _ => ⟨rfl, rfl⟩
 | d :: ds, t :: ts, hl, ht => by
  obtain ⟨h1, h2⟩ := comb_low (d := ds) (t := ts) (by simpa using hl) fun x hx => ht x (by simp [hx])
  have h0 := ht t (by simp)
  simp only [comb, List.map_cons, h1, h2, List.cons.injEq, and_true]
  constructor
  ·rw [Nat.mul_comm, Nat.mul_add_mod, Nat.mod_eq_of_lt h0]
  ·rw [Nat.mul_comm, Nat.mul_add_div (by omega), Nat.div_eq_of_lt h0, Nat.add_zero]
 | [], _ :: _, h, _ => by simp at h
 | _ :: _, [], h, _ => by simp at h
end Go.Proofs.YtggnmemkhookdaaGreatDoor.Kn

set_option linter.unusedSimpArgs false
set_option linter.unusedVariables false
set_option linter.unnecessarySimpa false
namespace Go.Proofs.YtggnmemkhookdaaGreatDoor.Kn
open Go Go.V
abbrev at0 (s : List Wy) (n : Nat) : Wy := s[n]?.getD default
structure Sem (s : List Wy) (L : List (Nat × Int)) : Prop where
 r : ∀ n, n < 51 → (at0 s n).r = ((sumF L fun e => if e.1 = n ∧ e.2 = 0 then 1 else 0 : Nat) : Int)
 lo : ∀ n, n < 51 → ∀ e ∈ L, e.1 = n → (at0 s n).k ≤ e.2
 ex : ∀ n, n < 51 → (at0 s n).k = 1048576 ∨ ∃ e ∈ L, e.1 = n ∧ e.2 = (at0 s n).k
theorem at0_set (s : List Wy) (i j : Nat) (w : Wy) (h : s.length = 51) (hi : i < 51) : at0 (s.set i w) j = if i = j then w else at0 s j := by
 unfold at0
 rw [List.getElem?_set]
 by_cases e : i = j
 ·subst e
  simp [h, hi]
 ·rw [if_neg e, if_neg e]
theorem addD_len (d : Nat) (cost : Int) (s : List Wy) : ∀ (m : Nat) (out : List Wy), ((List.range m).foldl (addN d cost s) out).length = out.length
 | 0, _ => rfl
 | m + 1, out => by
  rw [List.range_succ, List.foldl_append]
  simp only [List.foldl_cons, List.foldl_nil, addN, List.length_set]
  exact addD_len d cost s m out
theorem addD_at (d : Nat) (cost : Int) (s out : List Wy) (ho : out.length = 51) (j : Nat) : ∀ m, m + d ≤ 51 → at0 ((List.range m).foldl (addN d cost s) out) j =
  if d ≤ j ∧ j < d + m then ⟨min (at0 out j).k ((at0 s (j - d)).k + cost), if cost = 0 then w64 ((at0 out j).r + (at0 s (j - d)).r) else (at0 out j).r⟩ else at0 out j
 | 0, _ => by rw [if_neg (by omega)]; rfl
 | m + 1, h => by
  have ih := fun j => addD_at d cost s out ho j m (by omega)
  rw [List.range_succ, List.foldl_append]
  simp only [List.foldl_cons, List.foldl_nil]
  rw [addN, at0_set _ _ _ _ (by rw [addD_len]; exact ho) (by omega)]
  by_cases e : m + d = j
  ·rw [if_pos e, if_pos (show d ≤ j ∧ j < d + (m + 1) by omega)]
   have hm : at0 ((List.range m).foldl (addN d cost s) out) (m + d) = at0 out (m + d) := by rw [ih, if_neg (by omega)]
   simp only [at0] at hm
   rw [hm]
   subst e
   rw [Nat.add_sub_cancel]
  ·rw [if_neg e, ih j]
   by_cases h2 : d ≤ j ∧ j < d + m
   ·rw [if_pos h2, if_pos (show d ≤ j ∧ j < d + (m + 1) by omega)]
   ·rw [if_neg h2, if_neg (show ¬ (d ≤ j ∧ j < d + (m + 1)) by omega)]
theorem sem_addD {d : Nat} {cost : Int} {s out : List Wy} {Ls Lo : List (Nat × Int)} (hs : Sem s Ls) (ho : Sem out Lo) (okS : Okw s) (okO : Okw out) (hc : 0 ≤ cost)
  (hb : ∀ e ∈ Ls, e.1 + d < 51 ∧ 0 ≤ e.2) (hd : d ≤ 51) (hl : Lo.length + Ls.length < 9223372036854775807) : Sem (addD d cost s out) (Lo ++ Ls.map fun e => (e.1 + d, e.2 + cost)) := by
 have hat := fun j => addD_at d cost s out okO.len j (51 - d) (by omega)
 have hcnt : ∀ (L : List (Nat × Int)) (n : Nat), (sumF L fun e => if e.1 = n ∧ e.2 = 0 then 1 else 0) ≤ L.length := by
  intro L n
  rw [← sumF_len]
  exact sumF_le fun e _ => by split <;> omega
 refine ⟨fun n hn => ?_, fun n hn e he h1 => ?_, fun n hn => ?_⟩
 ·rw [addD, hat, sumF_append, sumF_map]
  by_cases h : d ≤ n
  ·rw [if_pos (by omega)]
   have e1 : (sumF Ls fun a => if a.1 + d = n ∧ a.2 + cost = 0 then 1 else 0) = if cost = 0 then (sumF Ls fun e => if e.1 = n - d ∧ e.2 = 0 then 1 else 0) else 0 := by
    by_cases hz : cost = 0
    ·rw [if_pos hz]
     refine sumF_congr fun a ha => ?_
     have := hb a ha
     by_cases q : a.1 = n - d ∧ a.2 = 0
     ·rw [if_pos q, if_pos (by omega)]
     ·rw [if_neg q, if_neg (by omega)]
    ·rw [if_neg hz]
     refine Eq.trans (sumF_congr (g := fun _ => 0) fun a ha => ?_) (sumF_zero Ls)
     have := hb a ha
     rw [if_neg (by omega)]
   rw [e1]
   by_cases hz : cost = 0
   ·simp only [if_pos hz]
    rw [ho.r n hn, hs.r (n - d) (by omega)]
    have := hcnt Lo n
    have := hcnt Ls (n - d)
    rw [w64_id (by omega)]
    omega
   ·simp only [if_neg hz]
    rw [ho.r n hn]
    omega
  ·rw [if_neg (by omega), ho.r n hn]
   have : (sumF Ls fun a => if a.1 + d = n ∧ a.2 + cost = 0 then 1 else 0) = 0 := by
    refine Eq.trans (sumF_congr (g := fun _ => 0) fun a ha => ?_) (sumF_zero Ls)
    rw [if_neg (by omega)]
   rw [this, Nat.add_zero]
 ·rw [addD, hat]
  rcases List.mem_append.1 he with he | he
  ·have := ho.lo n hn e he h1
   split
   ·dsimp only; omega
   ·exact this
  ·obtain ⟨a, ha, rfl⟩ := List.mem_map.1 he
   dsimp only at h1 ⊢
   have := hs.lo (n - d) (by omega) a ha (by omega)
   rw [if_pos (by omega)]
   dsimp only
   omega
 ·rw [addD, hat]
  split
  ·rename_i hh
   dsimp only
   by_cases hle : (at0 out n).k ≤ (at0 s (n - d)).k + cost
   ·rw [Int.min_eq_left hle]
    rcases ho.ex n hn with h | ⟨e, h1, h2, h3⟩
    ·exact .inl h
    ·exact .inr ⟨e, by simp [h1], h2, h3⟩
   ·rw [Int.min_eq_right (by omega)]
    have hk := okO.k1 n hn
    rcases hs.ex (n - d) (by omega) with h | ⟨e, h1, h2, h3⟩
    ·have h' : (s[n - d]?.getD default).k = 1048576 := h
     simp only [at0] at hle h hk
     omega
    ·exact .inr ⟨(e.1 + d, e.2 + cost), by simp only [List.mem_append, List.mem_map]; exact .inr ⟨e, h1, rfl⟩, by dsimp only; omega, by dsimp only; omega⟩
  ·rcases ho.ex n hn with h | ⟨e, h1, h2, h3⟩
   ·exact .inl h
   ·exact .inr ⟨e, by simp [h1], h2, h3⟩
theorem sem_none : Sem ((emptyL 0).set 0 ⟨1048576, 0⟩) [] := by
 have hl : (emptyL 0).length = 51 := by simp [emptyL]
 have key : ∀ n, n < 51 → at0 ((emptyL 0).set 0 ⟨1048576, 0⟩) n = ⟨1048576, 0⟩ := by
  intro n hn
  rw [at0_set _ _ _ _ hl (by omega)]
  by_cases h : 0 = n
  ·rw [if_pos h]
  ·rw [if_neg h]
   simp only [at0, emptyL, List.getElem?_set, List.getElem?_replicate, List.length_replicate]
   rw [if_neg (by omega)]
   simp [hn]
 refine ⟨fun n hn => by rw [key n hn]; rfl, fun n hn e he => by simp at he, fun n hn => .inl (by rw [key n hn])⟩
theorem sem_one : Sem (emptyL 0) [(0, 0)] := by
 have key : ∀ n, n < 51 → at0 (emptyL 0) n = if n = 0 then ⟨0, 1⟩ else ⟨1048576, 0⟩ := by
  intro n hn
  simp only [at0, emptyL, List.getElem?_set, List.getElem?_replicate, List.length_replicate]
  by_cases h : n = 0
  ·subst h; rfl
  ·rw [if_neg (by omega), if_neg h]
   simp [hn]
 refine ⟨fun n hn => ?_, fun n hn e he h1 => ?_, fun n hn => ?_⟩
 ·rw [key n hn, sumF_cons, sumF_nil]
  by_cases h : n = 0
  ·subst h; rfl
  ·rw [if_neg h, if_neg (by simp; omega)]; rfl
 ·simp only [List.mem_singleton] at he
  subst he
  rw [key n hn, if_pos (by simp at h1; omega)]
  simp
 ·rw [key n hn]
  by_cases h : n = 0
  ·exact .inr ⟨(0, 0), by simp, by simp [h], by simp [h]⟩
  ·rw [if_neg h]; exact .inl rfl
def moreW (base : Nat) (may : Nat → Bool) (cost : Nat → Int) (L : List (Nat × Int)) : List (Nat × Int) :=
 (List.range base).flatMap fun d => if may d then L.map fun e => (e.1 + d, e.2 + cost d) else []
theorem moreW_succ (base : Nat) (may : Nat → Bool) (cost : Nat → Int) (L : List (Nat × Int)) : moreW (base + 1) may cost L = moreW base may cost L ++ if may base then L.map fun e => (e.1 + base, e.2 + cost base) else [] := by
 unfold moreW
 rw [List.range_succ, List.flatMap_append]
 simp
theorem moreW_len (may : Nat → Bool) (cost : Nat → Int) (L : List (Nat × Int)) : ∀ base, (moreW base may cost L).length ≤ base * L.length
 | 0 => by simp [moreW]
 | base + 1 => by
  rw [moreW_succ, List.length_append, Nat.succ_mul]
  have := moreW_len may cost L base
  split <;> simp <;> omega
theorem sem_moreL {base : Nat} {may : Nat → Bool} {cost : Nat → Int} {s : List Wy} {L : List (Nat × Int)} (hs : Sem s L) (okS : Okw s) (hc : ∀ d, 0 ≤ cost d) (hb : ∀ e ∈ L, e.1 + base < 52 ∧ 0 ≤ e.2) (hbase : base ≤ 10)
  (hl : (base + 1) * L.length < 9223372036854775807) : Sem (moreL base may cost s) (moreW base may cost L) := by
 have key : ∀ m, m ≤ base → Sem ((List.range m).foldl (fun out d => if may d then addD d (cost d) s out else out) ((emptyL 0).set 0 ⟨1048576, 0⟩)) (moreW m may cost L) ∧ Okw ((List.range m).foldl (fun out d => if may d then addD d (cost d) s out else out) ((emptyL 0).set 0 ⟨1048576, 0⟩)) := by
  intro m
  induction m with
  | zero => intro _; exact ⟨sem_none, okw_set okw_empty (by simp) (by simp)⟩
  | succ m ih =>
   intro hm
   obtain ⟨ih1, ih2⟩ := ih (by omega)
   rw [List.range_succ, List.foldl_append, moreW_succ]
   simp only [List.foldl_cons, List.foldl_nil]
   by_cases h : may m
   ·rw [if_pos h, if_pos h]
    refine ⟨sem_addD hs ih1 okS ih2 (hc m) (fun e he => ⟨by have := hb e he; omega, (hb e he).2⟩) (by omega) ?_, okw_addD okS ih2 (hc m) (51 - m) (by omega)⟩
    have h1 := moreW_len may cost L m
    have h2 : m * L.length + L.length ≤ (base + 1) * L.length := by rw [← Nat.succ_mul]; exact Nat.mul_le_mul_right _ (by omega)
    omega
   ·rw [if_neg h, if_neg h, List.append_nil]
    exact ⟨ih1, ih2⟩
 exact (key base (Nat.le_refl _)).1
def topW (base : Nat) (ok : Nat → Bool) (cost : Nat → Int) (L : List (Nat × Int)) : List (Nat × Int) :=
 (L.filter fun e => ok e.1).map fun e => (e.1 / base, e.2 + cost (e.1 % base))
end Go.Proofs.YtggnmemkhookdaaGreatDoor.Kn

set_option linter.unusedSimpArgs false
set_option linter.unusedVariables false
set_option linter.unnecessarySimpa false
namespace Go.Proofs.YtggnmemkhookdaaGreatDoor.Kn
open Go Go.V
def topP (base : Nat) (ok : Nat → Bool) (cost : Nat → Int) (L : List (Nat × Int)) (N : Nat) : List (Nat × Int) :=
 (L.filter fun e => decide (e.1 < N) && ok e.1).map fun e => (e.1 / base, e.2 + cost (e.1 % base))
theorem topP_sum (base : Nat) (ok : Nat → Bool) (cost : Nat → Int) (L : List (Nat × Int)) (N : Nat) (g : Nat × Int → Nat) :
  sumF (topP base ok cost L (N + 1)) g = sumF (topP base ok cost L N) g + if ok N then sumF L (fun e => if e.1 = N then g (N / base, e.2 + cost (N % base)) else 0) else 0 := by
 unfold topP
 rw [sumF_map, sumF_map, sumF_filter, sumF_filter, sumF_if, ← sumF_add]
 refine sumF_congr fun e _ => ?_
 by_cases h : e.1 = N
 ·subst h
  by_cases h2 : ok e.1
  ·simp [h2]
  ·simp [h2]
 ·by_cases h2 : e.1 < N
  ·have h3 : e.1 < N + 1 := by omega
   simp [h, h2, h3]
  ·have h3 : ¬ e.1 < N + 1 := by omega
   simp [h, h2, h3]
theorem topP_mem (base : Nat) (ok : Nat → Bool) (cost : Nat → Int) (L : List (Nat × Int)) (N : Nat) (x : Nat × Int) :
  x ∈ topP base ok cost L (N + 1) ↔ x ∈ topP base ok cost L N ∨ (ok N = true ∧ ∃ e ∈ L, e.1 = N ∧ x = (N / base, e.2 + cost (N % base))) := by
 unfold topP
 simp only [List.mem_map, List.mem_filter, Bool.and_eq_true, decide_eq_true_eq]
 constructor
 ·rintro ⟨e, ⟨h1, h2, h3⟩, rfl⟩
  by_cases h : e.1 < N
  ·exact .inl ⟨e, ⟨h1, h, h3⟩, rfl⟩
  ·have : e.1 = N := by omega
   rw [this] at h3 ⊢
   exact .inr ⟨h3, e, h1, this, rfl⟩
 ·rintro (⟨e, ⟨h1, h2, h3⟩, rfl⟩ | ⟨h1, e, h2, h3, rfl⟩)
  ·exact ⟨e, ⟨h1, by omega, h3⟩, rfl⟩
  ·exact ⟨e, ⟨h2, by omega, by rw [h3]; exact h1⟩, by rw [h3]⟩
theorem sem_topN {b : Bk} {may : Nat → Nat → Nat → Bool} {carry : Nat → Nat → Bool} {p : Nat} {s : List Wy} {L : List (Nat × Int)} (hs : Sem s L) (okS : Okw s) (hB : 2 ≤ b.base.toNat) (hpos : ∀ e ∈ L, 0 ≤ e.2) (hl : 2 * L.length < 9223372036854775807) : ∀ N, N ≤ 51 →
  Sem ((List.range N).foldl (topN b may carry p s) ((emptyL 0).set 0 ⟨1048576, 0⟩)) (topP b.base.toNat (fun n => may b.cords.length p (n % b.base.toNat) && carry p (n / b.base.toNat)) (fun d => costL (topAt b p) d) L N) ∧
  Okw ((List.range N).foldl (topN b may carry p s) ((emptyL 0).set 0 ⟨1048576, 0⟩))
 | 0, _ => by
  have : topP b.base.toNat (fun n => may b.cords.length p (n % b.base.toNat) && carry p (n / b.base.toNat)) (fun d => costL (topAt b p) d) L 0 = [] := by simp [topP]
  rw [this]
  exact ⟨sem_none, okw_set okw_empty (by simp) (by simp)⟩
 | N + 1, h => by
  obtain ⟨ih1, ih2⟩ := sem_topN hs okS hB hpos hl N (by omega) (b := b) (may := may) (carry := carry) (p := p)
  generalize hok : (fun n => may b.cords.length p (n % b.base.toNat) && carry p (n / b.base.toNat)) = ok at ih1 ⊢
  generalize hco : (fun d : Nat => costL (topAt b p) d) = cost at ih1 ⊢
  generalize hnow : (List.range N).foldl (topN b may carry p s) ((emptyL 0).set 0 ⟨1048576, 0⟩) = now at ih1 ih2
  have hc0 : 0 ≤ cost (N % b.base.toNat) := by rw [← hco]; exact costL_nonneg _ _
  have hcN : costL (topAt b p) ((N % b.base.toNat : Nat) : Int) = cost (N % b.base.toNat) := by rw [← hco]
  have hokN : (may b.cords.length p (N % b.base.toNat) && carry p (N / b.base.toNat)) = ok N := by rw [← hok]
  have hq : N / b.base.toNat ≤ N := Nat.div_le_self _ _
  rw [List.range_succ, List.foldl_append, hnow]
  simp only [List.foldl_cons, List.foldl_nil, topN]
  rw [hokN, hcN]
  refine ⟨?_, ?_⟩
  ·by_cases hN : ok N = true
   ·rw [if_pos hN]
    have hlen : (topP b.base.toNat ok cost L N).length ≤ L.length := by
     unfold topP; rw [List.length_map]; exact List.length_filter_le _ _
    have hcnt : ∀ (M : List (Nat × Int)) (n : Nat), (sumF M fun e => if e.1 = n ∧ e.2 = 0 then 1 else 0) ≤ M.length := by
     intro M n
     rw [← sumF_len]
     exact sumF_le fun e _ => by split <;> omega
    have hat := fun n => at0_set now (N / b.base.toNat) n ⟨min (at0 now (N / b.base.toNat)).k ((at0 s N).k + cost (N % b.base.toNat)), if cost (N % b.base.toNat) = 0 then w64 ((at0 now (N / b.base.toNat)).r + (at0 s N).r) else (at0 now (N / b.base.toNat)).r⟩ ih2.len (by omega)
    refine ⟨fun n hn => ?_, fun n hn x hx h1 => ?_, fun n hn => ?_⟩
    ·rw [hat, topP_sum, if_pos hN]
     by_cases e : N / b.base.toNat = n
     ·rw [if_pos e]
      have e1 : (sumF L fun a => if a.1 = N then (if (N / b.base.toNat, a.2 + cost (N % b.base.toNat)).1 = n ∧ (N / b.base.toNat, a.2 + cost (N % b.base.toNat)).2 = 0 then 1 else 0) else 0) = if cost (N % b.base.toNat) = 0 then (sumF L fun e => if e.1 = N ∧ e.2 = 0 then 1 else 0) else 0 := by
       by_cases hz : cost (N % b.base.toNat) = 0
       ·rw [if_pos hz]
        refine sumF_congr fun a ha => ?_
        have := hpos a ha
        by_cases q : a.1 = N
        ·simp only [q, true_and, e, hz, Int.add_zero, if_true]
        ·simp [q]
       ·rw [if_neg hz]
        refine Eq.trans (sumF_congr (g := fun _ => 0) fun a ha => ?_) (sumF_zero L)
        have := hpos a ha
        by_cases q : a.1 = N
        ·rw [if_pos q, if_neg (by dsimp only; omega)]
        ·rw [if_neg q]
      rw [e1]
      subst e
      have i1 := ih1.r (N / b.base.toNat) (by omega)
      have i2 := hs.r N (by omega)
      have := hcnt (topP b.base.toNat ok cost L N) (N / b.base.toNat)
      have := hcnt L N
      dsimp only
      by_cases hz : cost (N % b.base.toNat) = 0
      ·simp only [if_pos hz]
       rw [i1, i2, w64_id (by omega)]
       omega
      ·simp only [if_neg hz]
       rw [i1]
       omega
     ·rw [if_neg e, ih1.r n hn]
      have : (sumF L fun a => if a.1 = N then (if (N / b.base.toNat, a.2 + cost (N % b.base.toNat)).1 = n ∧ (N / b.base.toNat, a.2 + cost (N % b.base.toNat)).2 = 0 then 1 else 0) else 0) = 0 := by
       refine Eq.trans (sumF_congr (g := fun _ => 0) fun a ha => ?_) (sumF_zero L)
       by_cases q : a.1 = N
       ·rw [if_pos q, if_neg (by dsimp only; omega)]
       ·rw [if_neg q]
      rw [this, Nat.add_zero]
    ·rw [hat]
     rcases (topP_mem _ _ _ _ _ _).1 hx with hx | ⟨_, a, ha, h2, rfl⟩
     ·have := ih1.lo n hn x hx h1
      split
      ·rename_i e
       subst e
       dsimp only
       omega
      ·exact this
     ·dsimp only at h1 ⊢
      rw [if_pos h1]
      have := hs.lo N (by omega) a ha h2
      dsimp only
      omega
    ·rw [hat]
     split
     ·rename_i e
      subst e
      dsimp only
      by_cases hle : (at0 now (N / b.base.toNat)).k ≤ (at0 s N).k + cost (N % b.base.toNat)
      ·rw [Int.min_eq_left hle]
       rcases ih1.ex _ hn with h | ⟨x, h1, h2, h3⟩
       ·exact .inl h
       ·exact .inr ⟨x, (topP_mem _ _ _ _ _ _).2 (.inl h1), h2, h3⟩
      ·rw [Int.min_eq_right (by omega)]
       have hk := ih2.k1 (N / b.base.toNat) hn
       rcases hs.ex N (by omega) with h | ⟨x, h1, h2, h3⟩
       ·simp only [at0] at hle h hk
        omega
       ·exact .inr ⟨(N / b.base.toNat, x.2 + cost (N % b.base.toNat)), (topP_mem _ _ _ _ _ _).2 (.inr ⟨hN, x, h1, h2, rfl⟩), rfl, by dsimp only; omega⟩
     ·rcases ih1.ex n hn with h | ⟨x, h1, h2, h3⟩
      ·exact .inl h
      ·exact .inr ⟨x, (topP_mem _ _ _ _ _ _).2 (.inl h1), h2, h3⟩
   ·rw [if_neg hN]
    refine ⟨fun n hn => ?_, fun n hn x hx h1 => ?_, fun n hn => ?_⟩
    ·rw [topP_sum, if_neg hN, Nat.add_zero]
     exact ih1.r n hn
    ·rcases (topP_mem _ _ _ _ _ _).1 hx with hx | ⟨h2, _⟩
     ·exact ih1.lo n hn x hx h1
     ·exact absurd h2 hN
    ·rcases ih1.ex n hn with h | ⟨x, h1, h2, h3⟩
     ·exact .inl h
     ·exact .inr ⟨x, (topP_mem _ _ _ _ _ _).2 (.inl h1), h2, h3⟩
  ·by_cases hN : ok N = true
   ·rw [if_pos hN]
    have a := okS.k0 N (by omega)
    have h0 := ih2.k0 (N / b.base.toNat) (by omega)
    have h1 := ih2.k1 (N / b.base.toNat) (by omega)
    exact okw_set ih2 (by dsimp only; omega) (by dsimp only; omega)
   ·rw [if_neg hN]
    exact ih2
theorem topP_all {base : Nat} {ok : Nat → Bool} {cost : Nat → Int} {L : List (Nat × Int)} {N : Nat} (h : ∀ e ∈ L, e.1 < N) : topP base ok cost L N = topW base ok cost L := by
 unfold topP topW
 congr 1
 apply List.filter_congr
 intro e he
 simp [h e he]
def colW (b : Bk) (may : Nat → Nat → Nat → Bool) (p : Nat) (L : List (Nat × Int)) : Nat → List (Nat × Int)
 | 0 => L
 | m + 1 => moreW b.base.toNat (may m p) (fun d => costL (spAt b m p) d) (colW b may p L m)
def stepW (b : Bk) (may : Nat → Nat → Nat → Bool) (carry : Nat → Nat → Bool) (p : Nat) (L : List (Nat × Int)) : List (Nat × Int) :=
 topW b.base.toNat (fun n => may b.cords.length p (n % b.base.toNat) && carry p (n / b.base.toNat)) (fun d => costL (topAt b p) d) (colW b may p L b.cords.length)
def solveW (b : Bk) (may : Nat → Nat → Nat → Bool) (carry : Nat → Nat → Bool) : Nat → List (Nat × Int) → List (Nat × Int)
 | 0, L => L
 | q + 1, L => solveW b may carry q (stepW b may carry q L)
theorem colL_succ (b : Bk) (may : Nat → Nat → Nat → Bool) (p : Nat) (s : List Wy) (m : Nat) : colL b may p s (m + 1) = moreL b.base.toNat (may m p) (fun d => costL (spAt b m p) d) (colL b may p s m) := by
 unfold colL
 rw [List.range_succ, List.foldl_append]
 rfl
theorem mem_moreW {base : Nat} {may : Nat → Bool} {cost : Nat → Int} {L : List (Nat × Int)} {x : Nat × Int} : x ∈ moreW base may cost L ↔ ∃ d, d < base ∧ may d = true ∧ ∃ e ∈ L, x = (e.1 + d, e.2 + cost d) := by
 unfold moreW
 simp only [List.mem_flatMap, List.mem_range]
 constructor
 ·rintro ⟨d, hd, hx⟩
  by_cases h : may d = true
  ·rw [if_pos h] at hx
   obtain ⟨e, he, rfl⟩ := List.mem_map.1 hx
   exact ⟨d, hd, h, e, he, rfl⟩
  ·rw [if_neg h] at hx; simp at hx
 ·rintro ⟨d, hd, h, e, he, rfl⟩
  exact ⟨d, hd, by rw [if_pos h]; exact List.mem_map.2 ⟨e, he, rfl⟩⟩
theorem sem_col {b : Bk} (hv : Val b) {may : Nat → Nat → Nat → Bool} {p : Nat} {s : List Wy} {L : List (Nat × Int)} (hs : Sem s L) (okS : Okw s) (hb : ∀ e ∈ L, e.1 ≤ b.cords.length ∧ 0 ≤ e.2) {M : Nat} (hL : L.length ≤ M) (hM : M ≤ 1000000000000) : ∀ m, m ≤ b.cords.length →
  Sem (colL b may p s m) (colW b may p L m) ∧ Okw (colL b may p s m) ∧ (∀ e ∈ colW b may p L m, e.1 ≤ b.cords.length + m * (b.base.toNat - 1) ∧ 0 ≤ e.2) ∧ (colW b may p L m).length ≤ 10 ^ m * M
 | 0, _ => ⟨hs, okS, by simpa [colW] using hb, by simpa [colW] using hL⟩
 | m + 1, h => by
  obtain ⟨hb1, hb2⟩ := hv.hb
  have hc4 := hv.hc
  obtain ⟨i1, i2, i3, i4⟩ := sem_col hv hs okS hb hL hM m (by omega) (may := may) (p := p)
  have hmm : m * (b.base.toNat - 1) ≤ 3 * 9 := Nat.mul_le_mul (by omega) (by omega)
  have hp : (10 : Nat) ^ m ≤ 1000 := by
   have : m = 0 ∨ m = 1 ∨ m = 2 ∨ m = 3 := by omega
   rcases this with rfl | rfl | rfl | rfl <;> decide
  have hlen : (colW b may p L m).length ≤ 1000 * 1000000000000 := Nat.le_trans i4 (Nat.mul_le_mul hp hM)
  have h11 : (b.base.toNat + 1) * (colW b may p L m).length ≤ 11 * (1000 * 1000000000000) := Nat.mul_le_mul (by omega) hlen
  rw [colL_succ]
  refine ⟨sem_moreL i1 i2 (fun d => costL_nonneg _ _) (fun e he => ⟨by have := i3 e he; omega, (i3 e he).2⟩) (by omega) (by omega), okw_moreL i2 (by omega) (fun d => costL_nonneg _ _), fun e he => ?_, ?_⟩
  ·obtain ⟨d, hd, _, a, ha, rfl⟩ := mem_moreW.1 he
   have := i3 a ha
   have := costL_nonneg (spAt b m p) d
   rw [Nat.succ_mul]
   dsimp only
   omega
  ·refine Nat.le_trans (moreW_len _ _ _ _) ?_
   refine Nat.le_trans (Nat.mul_le_mul (show b.base.toNat ≤ 10 by omega) i4) ?_
   rw [Nat.pow_succ, Nat.mul_comm (10 ^ m) 10, Nat.mul_assoc]
   exact Nat.le_refl _
theorem sem_step {b : Bk} (hv : Val b) {may : Nat → Nat → Nat → Bool} {carry : Nat → Nat → Bool} {p : Nat} {s : List Wy} {L : List (Nat × Int)} (hs : Sem s L) (okS : Okw s) (hb : ∀ e ∈ L, e.1 ≤ b.cords.length ∧ 0 ≤ e.2) {M : Nat} (hL : L.length ≤ M) (hM : M ≤ 1000000000000) :
  Sem (stepL b may carry p s) (stepW b may carry p L) ∧ Okw (stepL b may carry p s) ∧ (∀ e ∈ stepW b may carry p L, e.1 ≤ b.cords.length ∧ 0 ≤ e.2) ∧ (stepW b may carry p L).length ≤ 10000 * M := by
 obtain ⟨hb1, hb2⟩ := hv.hb
 have hc4 := hv.hc
 obtain ⟨i1, i2, i3, i4⟩ := sem_col hv hs okS hb hL hM b.cords.length (Nat.le_refl _) (may := may) (p := p)
 have hmm : b.cords.length * (b.base.toNat - 1) ≤ 4 * 9 := Nat.mul_le_mul (by omega) (by omega)
 have hp : (10 : Nat) ^ b.cords.length ≤ 10000 := by
  have : b.cords.length = 0 ∨ b.cords.length = 1 ∨ b.cords.length = 2 ∨ b.cords.length = 3 ∨ b.cords.length = 4 := by omega
  rcases this with h | h | h | h | h <;> rw [h] <;> decide
 have hlen : (colW b may p L b.cords.length).length ≤ 10000 * M := Nat.le_trans i4 (Nat.mul_le_mul_right _ hp)
 have hlen2 : 10000 * M ≤ 10000 * 1000000000000 := Nat.mul_le_mul_left _ hM
 obtain ⟨j1, j2⟩ := sem_topN i1 i2 (show 2 ≤ b.base.toNat by omega) (fun e he => (i3 e he).2) (by omega) 51 (Nat.le_refl _) (b := b) (may := may) (carry := carry) (p := p)
 rw [topP_all (fun e he => by have := i3 e he; omega)] at j1
 refine ⟨j1, j2, fun e he => ?_, ?_⟩
 ·unfold stepW topW at he
  obtain ⟨a, ha, rfl⟩ := List.mem_map.1 he
  have := i3 a (List.mem_filter.1 ha).1
  have := costL_nonneg (topAt b p) ((a.1 % b.base.toNat : Nat) : Int)
  refine ⟨?_, by dsimp only; omega⟩
  dsimp only
  have e1 : b.cords.length + b.cords.length * (b.base.toNat - 1) = b.cords.length * b.base.toNat := by
   obtain ⟨B, hB⟩ : ∃ B, b.base.toNat = B + 1 := ⟨b.base.toNat - 1, by omega⟩
   rw [hB, Nat.add_sub_cancel, Nat.mul_succ, Nat.add_comm]
  have : a.1 ≤ b.cords.length * b.base.toNat := by omega
  exact Nat.div_le_of_le_mul (by rw [Nat.mul_comm]; exact this)
 ·unfold stepW topW
  rw [List.length_map]
  exact Nat.le_trans (List.length_filter_le _ _) hlen
theorem sem_solve {b : Bk} (hv : Val b) {may : Nat → Nat → Nat → Bool} {carry : Nat → Nat → Bool} : ∀ (q : Nat) (s : List Wy) (L : List (Nat × Int)) (M : Nat), Sem s L → Okw s → (∀ e ∈ L, e.1 ≤ b.cords.length ∧ 0 ≤ e.2) → L.length ≤ M → 10000 ^ q * M ≤ 10000000000000000 →
  Sem (solveF b may carry q s) (solveW b may carry q L) ∧ ∀ e ∈ solveW b may carry q L, 0 ≤ e.2
 | 0, s, L, M, h1, _, h3, _, _ => ⟨h1, fun e he => (h3 e he).2⟩
 | q + 1, s, L, M, h1, h2, h3, h4, h5 => by
  have hq : 1 ≤ 10000 ^ q := Nat.one_le_pow _ _ (by omega)
  have hM : M ≤ 1000000000000 := by
   rw [Nat.pow_succ] at h5
   have : 1 * 10000 * M ≤ 10000 ^ q * 10000 * M := Nat.mul_le_mul_right _ (Nat.mul_le_mul_right _ hq)
   omega
  obtain ⟨i1, i2, i3, i4⟩ := sem_step hv h1 h2 h3 h4 hM (may := may) (carry := carry) (p := q)
  exact sem_solve hv q _ _ (10000 * M) i1 i2 i3 i4 (by rw [Nat.pow_succ, Nat.mul_assoc] at h5; exact h5)
theorem solveL_sem {b : Bk} (hv : Val b) (may : Nat → Nat → Nat → Bool) (carry : Nat → Nat → Bool) :
  (solveL b may carry).r = ((sumF (solveW b may carry b.places.toNat [(0, 0)]) fun e => if e.1 = 0 ∧ e.2 = 0 then 1 else 0 : Nat) : Int) ∧
  (∀ e ∈ solveW b may carry b.places.toNat [(0, 0)], e.1 = 0 → (solveL b may carry).k ≤ e.2) ∧
  ((solveL b may carry).k = 1048576 ∨ ∃ e ∈ solveW b may carry b.places.toNat [(0, 0)], e.1 = 0 ∧ e.2 = (solveL b may carry).k) := by
 have hp := hv.hp
 have h4 : 10000 ^ b.places.toNat * 1 ≤ 10000000000000000 := by
  have : b.places.toNat = 1 ∨ b.places.toNat = 2 ∨ b.places.toNat = 3 ∨ b.places.toNat = 4 := by omega
  rcases this with h | h | h | h <;> rw [h] <;> decide
 obtain ⟨h, _⟩ := sem_solve hv b.places.toNat (emptyL 0) [(0, 0)] 1 sem_one okw_empty (by simp) (by simp) h4 (may := may) (carry := carry)
 exact ⟨h.r 0 (by omega), h.lo 0 (by omega), h.ex 0 (by omega)⟩
end Go.Proofs.YtggnmemkhookdaaGreatDoor.Kn

set_option linter.unusedSimpArgs false
set_option linter.unusedVariables false
set_option linter.unnecessarySimpa false
namespace Go.Proofs.YtggnmemkhookdaaGreatDoor.Kn
open Go Go.V
theorem sumF_tup_last (N : Nat) : ∀ (j : Nat) (f : List Nat → Nat), sumF (tup (j + 1) N) f = sumF (tup j N) fun t => sumF (List.range N) fun n => f (t ++ [n])
 | 0, f => by
  rw [sumF_tup_succ]
  simp [tup, sumF_cons, sumF_nil]
 | j + 1, f => by
  rw [sumF_tup_succ, sumF_tup_succ]
  refine sumF_congr fun n _ => ?_
  rw [sumF_tup_last N j]
  rfl
theorem sumF_moreW (base : Nat) (may : Nat → Bool) (cost : Nat → Int) (L : List (Nat × Int)) (g : Nat × Int → Nat) :
  sumF (moreW base may cost L) g = sumF L fun e => sumF (List.range base) fun d => if may d then g (e.1 + d, e.2 + cost d) else 0 := by
 rw [moreW, sumF_flatMap, sumF_comm]
 refine sumF_congr fun d _ => ?_
 by_cases h : may d = true
 ·rw [if_pos h, sumF_map]
  exact sumF_congr fun e _ => by rw [if_pos h]
 ·rw [if_neg h, sumF_nil]
  exact (Eq.trans (sumF_congr (g := fun _ => 0) fun e _ => by rw [if_neg h]) (sumF_zero L)).symm
def colOK (may : Nat → Nat → Nat → Bool) (p : Nat) (j : Nat) (d : List Nat) : Bool := (List.range j).all fun c => may c p (d[c]?.getD default)
def colCost (b : Bk) (p : Nat) (j : Nat) (d : List Nat) : Int := (List.range j).foldl (fun a c => a + costL (spAt b c p) (d[c]?.getD default : Nat)) 0
theorem colOK_snoc (may : Nat → Nat → Nat → Bool) (p j n : Nat) (d : List Nat) (h : d.length = j) : colOK may p (j + 1) (d ++ [n]) = (colOK may p j d && may j p n) := by
 unfold colOK
 rw [List.range_succ, List.all_append]
 congr 1
 ·have : ∀ c, c ∈ List.range j → may c p ((d ++ [n])[c]?.getD default) = may c p (d[c]?.getD default) := by
   intro c hc
   have := List.mem_range.1 hc
   rw [List.getElem?_append_left (by omega)]
  rw [Bool.eq_iff_iff, List.all_eq_true, List.all_eq_true]
  exact ⟨fun h c hc => by rw [← this c hc]; exact h c hc, fun h c hc => by rw [this c hc]; exact h c hc⟩
 ·subst h
  simp
theorem colCost_snoc (b : Bk) (p j n : Nat) (d : List Nat) (h : d.length = j) : colCost b p (j + 1) (d ++ [n]) = colCost b p j d + costL (spAt b j p) n := by
 unfold colCost
 rw [List.range_succ, List.foldl_append]
 simp only [List.foldl_cons, List.foldl_nil]
 have h2 : (d ++ [n])[j]?.getD default = n := by subst h; simp
 rw [h2]
 congr 1
 have : ∀ (l : List Nat) (a : Int), (∀ c ∈ l, c < j) → l.foldl (fun a c => a + costL (spAt b c p) ((d ++ [n])[c]?.getD default : Nat)) a = l.foldl (fun a c => a + costL (spAt b c p) (d[c]?.getD default : Nat)) a := by
  intro l
  induction l with
  | nil => intro a _; rfl
  | cons x r ih =>
   intro a hx
   simp only [List.foldl_cons]
   rw [ih _ fun c hc => hx c (by simp [hc]), List.getElem?_append_left (by have := hx x (by simp); omega)]
 exact this _ _ fun c hc => List.mem_range.1 hc
theorem sumF_colW (b : Bk) (may : Nat → Nat → Nat → Bool) (p : Nat) (L : List (Nat × Int)) : ∀ (j : Nat) (g : Nat × Int → Nat),
  sumF (colW b may p L j) g = sumF L fun e => sumF (tup j b.base.toNat) fun d => if colOK may p j d then g (e.1 + d.sum, e.2 + colCost b p j d) else 0
 | 0, g => by
  refine sumF_congr fun e _ => ?_
  simp [tup, sumF_cons, sumF_nil, colOK, colCost]
 | j + 1, g => by
  rw [colW, sumF_moreW, sumF_colW b may p L j]
  refine sumF_congr fun e _ => ?_
  rw [sumF_tup_last]
  refine sumF_congr fun t ht => ?_
  have hl := (tup_mem.1 ht).1
  rw [sumF_if]
  refine sumF_congr fun n _ => ?_
  rw [colOK_snoc _ _ _ _ _ hl, colCost_snoc _ _ _ _ _ hl]
  simp only [List.sum_append, List.sum_cons, List.sum_nil, Nat.add_zero, Bool.and_eq_true]
  by_cases h1 : colOK may p j t = true
  ·by_cases h2 : may j p n = true
   ·simp only [h1, h2, if_true, and_self, Nat.add_assoc, Int.add_assoc]
   ·simp [h1, h2]
  ·simp [h1]
def carT (B : Nat) : Nat → List Nat → Nat
 | 0, _ => 0
 | k + 1, t => ((t.map (· / B ^ k)).sum + carT B k (t.map (· % B ^ k))) / B
def colT (B k : Nat) (t : List Nat) : Nat := (t.map (· / B ^ k)).sum + carT B k (t.map (· % B ^ k))
def okT (b : Bk) (may : Nat → Nat → Nat → Bool) (carry : Nat → Nat → Bool) : Nat → List Nat → Bool
 | 0, _ => true
 | k + 1, t => okT b may carry k (t.map (· % b.base.toNat ^ k)) && (colOK may (b.places.toNat - 1 - k) b.cords.length (t.map (· / b.base.toNat ^ k)) &&
   (may b.cords.length (b.places.toNat - 1 - k) (colT b.base.toNat k t % b.base.toNat) && carry (b.places.toNat - 1 - k) (colT b.base.toNat k t / b.base.toNat)))
def costT (b : Bk) : Nat → List Nat → Int
 | 0, _ => 0
 | k + 1, t => costT b k (t.map (· % b.base.toNat ^ k)) + colCost b (b.places.toNat - 1 - k) b.cords.length (t.map (· / b.base.toNat ^ k)) + costL (topAt b (b.places.toNat - 1 - k)) (colT b.base.toNat k t % b.base.toNat : Nat)
def LK (b : Bk) (may : Nat → Nat → Nat → Bool) (carry : Nat → Nat → Bool) : Nat → List (Nat × Int)
 | 0 => [(0, 0)]
 | k + 1 => stepW b may carry (b.places.toNat - 1 - k) (LK b may carry k)
theorem solveW_LK (b : Bk) (may : Nat → Nat → Nat → Bool) (carry : Nat → Nat → Bool) : ∀ q, q ≤ b.places.toNat → solveW b may carry q (LK b may carry (b.places.toNat - q)) = LK b may carry b.places.toNat
 | 0, _ => by rw [Nat.sub_zero]; rfl
 | q + 1, h => by
  have ih := solveW_LK b may carry q (by omega)
  rw [show b.places.toNat - q = (b.places.toNat - (q + 1)) + 1 by omega, LK, show b.places.toNat - 1 - (b.places.toNat - (q + 1)) = q by omega] at ih
  exact ih
theorem sumF_LK (b : Bk) (may : Nat → Nat → Nat → Bool) (carry : Nat → Nat → Bool) : ∀ (k : Nat) (f : Nat × Int → Nat),
  sumF (LK b may carry k) f = sumF (tup b.cords.length (b.base.toNat ^ k)) fun t => if okT b may carry k t then f (carT b.base.toNat k t, costT b k t) else 0
 | 0, f => by
  have h1 : ∀ m, sumF (tup m 1) (fun t => if okT b may carry 0 t then f (carT b.base.toNat 0 t, costT b 0 t) else 0) = f (0, 0) := by
   intro m
   induction m with
   | zero => simp [tup, sumF_cons, sumF_nil, okT, carT, costT]
   | succ m ih =>
    rw [sumF_tup_succ]
    simp only [List.range_one, sumF_cons, sumF_nil, Nat.add_zero]
    exact ih
  rw [Nat.pow_zero, h1]
  simp [LK, sumF_cons, sumF_nil]
 | k + 1, f => by
  rw [LK, stepW, topW, sumF_map, sumF_filter, sumF_colW, sumF_LK b may carry k, Nat.pow_succ, Nat.mul_comm, sumF_tup_mul]
  refine sumF_congr fun t ht => ?_
  obtain ⟨hl, hlt⟩ := tup_mem.1 ht
  rw [sumF_if]
  refine sumF_congr fun d hd => ?_
  obtain ⟨hl2, _⟩ := tup_mem.1 hd
  obtain ⟨e1, e2⟩ := comb_low (N := b.base.toNat ^ k) (d := d) (t := t) (by rw [hl, hl2]) hlt
  have e3 : colT b.base.toNat k (comb (b.base.toNat ^ k) d t) = carT b.base.toNat k t + d.sum := by
   unfold colT
   rw [e1, e2, Nat.add_comm]
  have e4 : carT b.base.toNat (k + 1) (comb (b.base.toNat ^ k) d t) = (carT b.base.toNat k t + d.sum) / b.base.toNat := by
   rw [← e3]
   rfl
  simp only [okT, costT, e1, e2, e3, e4]
  by_cases h1 : okT b may carry k t = true
  ·by_cases h2 : colOK may (b.places.toNat - 1 - k) b.cords.length d = true
   ·simp only [h1, h2, if_true, Bool.true_and]
   ·simp [h1, h2]
  ·simp [h1]
end Go.Proofs.YtggnmemkhookdaaGreatDoor.Kn

set_option linter.unusedSimpArgs false
set_option linter.unusedVariables false
set_option linter.unnecessarySimpa false
namespace Go.Proofs.YtggnmemkhookdaaGreatDoor.Kn
open Go Go.V
def isum (n : Nat) (f : Nat → Int) : Int := (List.range n).foldl (fun a i => a + f i) 0
theorem isum_zero (f : Nat → Int) : isum 0 f = 0 := rfl
theorem isum_succ (n : Nat) (f : Nat → Int) : isum (n + 1) f = isum n f + f n := by
 unfold isum
 rw [List.range_succ, List.foldl_append]
 rfl
theorem isum_congr {n : Nat} {f g : Nat → Int} (h : ∀ i, i < n → f i = g i) : isum n f = isum n g := by
 induction n with
 | zero => rfl
 | succ n ih => rw [isum_succ, isum_succ, ih fun i hi => h i (by omega), h n (by omega)]
theorem isum_add (n : Nat) (f g : Nat → Int) : (isum n fun i => f i + g i) = isum n f + isum n g := by
 induction n with
 | zero => rfl
 | succ n ih => rw [isum_succ, isum_succ, isum_succ, ih]; omega
theorem isum_const0 (n : Nat) : (isum n fun _ => 0) = 0 := by
 induction n with
 | zero => rfl
 | succ n ih => rw [isum_succ, ih]; rfl
theorem isum_comm (n m : Nat) (f : Nat → Nat → Int) : (isum n fun i => isum m (f i)) = isum m fun j => isum n fun i => f i j := by
 induction n with
 | zero =>
  have : (isum m fun j => isum 0 fun i => f i j) = isum m fun _ => 0 := isum_congr fun j _ => rfl
  rw [this, isum_const0]; rfl
 | succ n ih =>
  rw [isum_succ, ih, ← isum_add]
  exact isum_congr fun j _ => by rw [isum_succ]
theorem isum_nonneg {n : Nat} {f : Nat → Int} (h : ∀ i, i < n → 0 ≤ f i) : 0 ≤ isum n f := by
 induction n with
 | zero => exact Int.le_refl _
 | succ n ih =>
  rw [isum_succ]
  have := ih fun i hi => h i (by omega)
  have := h n (by omega)
  omega
theorem isum_eq0 {n : Nat} {f : Nat → Int} (h : ∀ i, i < n → 0 ≤ f i) : isum n f = 0 ↔ ∀ i, i < n → f i = 0 := by
 induction n with
 | zero => exact ⟨fun _ i hi => by omega, fun _ => rfl⟩
 | succ n ih =>
  rw [isum_succ]
  have h1 := isum_nonneg (n := n) (f := f) fun i hi => h i (by omega)
  have h2 := h n (by omega)
  have ih := ih fun i hi => h i (by omega)
  constructor
  ·intro e i hi
   rcases Nat.lt_or_ge i n with hl | hl
   ·exact ih.1 (by omega) i hl
   ·have : i = n := by omega
    subst this
    omega
  ·intro e
   have := ih.2 fun i hi => e i (by omega)
   have := e n (by omega)
   omega
theorem sum_divmod (N : Nat) (t : List Nat) : t.sum = (t.map (· / N)).sum * N + (t.map (· % N)).sum := by
 induction t with
 | nil => simp
 | cons x r ih =>
  simp only [List.sum_cons, List.map_cons, Nat.add_mul]
  have := Nat.div_add_mod x N
  rw [Nat.mul_comm] at this
  omega
theorem sum_div {N : Nat} (hN : 0 < N) (t : List Nat) : (t.map (· / N)).sum + (t.map (· % N)).sum / N = t.sum / N := by
 rw [sum_divmod N t, Nat.mul_comm, Nat.mul_add_div hN]
theorem sum_mod (N : Nat) (t : List Nat) : (t.map (· % N)).sum % N = t.sum % N := by
 rw [sum_divmod N t, Nat.mul_comm, Nat.mul_add_mod]
theorem carT_eq {B : Nat} (hB : 0 < B) : ∀ (k : Nat) (t : List Nat), (∀ x ∈ t, x < B ^ k) → carT B k t = t.sum / B ^ k
 | 0, t, h => by
  have : t.sum = 0 := by
   induction t with
   | nil => rfl
   | cons x r ih =>
    have := h x (by simp)
    rw [List.sum_cons, ih fun y hy => h y (by simp [hy])]
    simp at this
    omega
  simp [carT, this]
 | k + 1, t, h => by
  have hp : 0 < B ^ k := Nat.pow_pos hB
  rw [carT, carT_eq hB k _ (fun x hx => by
   obtain ⟨y, _, rfl⟩ := List.mem_map.1 hx
   exact Nat.mod_lt _ hp), sum_div hp, Nat.div_div_eq_div_mul, Nat.pow_succ]
theorem colT_eq {B : Nat} (hB : 0 < B) (k : Nat) (t : List Nat) : colT B k t = t.sum / B ^ k := by
 have hp : 0 < B ^ k := Nat.pow_pos hB
 rw [colT, carT_eq hB k _ (fun x hx => by
   obtain ⟨y, _, rfl⟩ := List.mem_map.1 hx
   exact Nat.mod_lt _ hp), sum_div hp]
theorem map_mod_mod {B k K : Nat} (h : k ≤ K) (t : List Nat) : (t.map (· % B ^ K)).map (· % B ^ k) = t.map (· % B ^ k) := by
 rw [List.map_map]
 apply List.map_congr_left
 intro x _
 exact Nat.mod_mod_of_dvd x (Nat.pow_dvd_pow B h)
theorem map_mod_self {N : Nat} {t : List Nat} (h : ∀ x ∈ t, x < N) : t.map (· % N) = t := by
 induction t with
 | nil => rfl
 | cons x r ih => rw [List.map_cons, Nat.mod_eq_of_lt (h x (by simp)), ih fun y hy => h y (by simp [hy])]
def dgN (b : Bk) (l : List Nat) (c p : Nat) : Nat := (l[c]?.getD default) / b.base.toNat ^ (b.places.toNat - 1 - p) % b.base.toNat
def carN (b : Bk) (l : List Nat) (p : Nat) : Nat := ((l.take b.cords.length).map (· % b.base.toNat ^ (b.places.toNat - p))).sum / b.base.toNat ^ (b.places.toNat - p)
def allOK (b : Bk) (may : Nat → Nat → Nat → Bool) (carry : Nat → Nat → Bool) (l : List Nat) : Bool :=
 (List.range b.places.toNat).all fun p => ((List.range (b.cords.length + 1)).all fun c => may c p (dgN b l c p)) && carry p (carN b l p)
def cordSp (b : Bk) (c p : Nat) : Sp := (cordAt b c)[p]?.getD default
def costN (b : Bk) (l : List Nat) : Int := isum (b.cords.length + 1) fun c => isum b.places.toNat fun p => costL (cordSp b c p) (dgN b l c p : Nat)
def okP (b : Bk) (may : Nat → Nat → Nat → Bool) (carry : Nat → Nat → Bool) (k : Nat) (u : List Nat) : Bool :=
 colOK may (b.places.toNat - 1 - k) b.cords.length (u.map (· / b.base.toNat ^ k)) &&
   (may b.cords.length (b.places.toNat - 1 - k) (colT b.base.toNat k u % b.base.toNat) && carry (b.places.toNat - 1 - k) (colT b.base.toNat k u / b.base.toNat))
def costP (b : Bk) (k : Nat) (u : List Nat) : Int :=
 colCost b (b.places.toNat - 1 - k) b.cords.length (u.map (· / b.base.toNat ^ k)) + costL (topAt b (b.places.toNat - 1 - k)) (colT b.base.toNat k u % b.base.toNat : Nat)
theorem okT_places (b : Bk) (may : Nat → Nat → Nat → Bool) (carry : Nat → Nat → Bool) : ∀ (K : Nat) (t : List Nat), (∀ x ∈ t, x < b.base.toNat ^ K) →
  (okT b may carry K t = true ↔ ∀ k, k < K → okP b may carry k (t.map (· % b.base.toNat ^ (k + 1))) = true)
 | 0, t, _ => ⟨fun _ k hk => by omega, fun _ => rfl⟩
 | K + 1, t, h => by
  by_cases hB : b.base.toNat = 0
  ·-- no number is below 0
   cases t with
   | nil =>
    have ih := okT_places b may carry K [] (by simp)
    show (okT b may carry K ([].map _) && okP b may carry K []) = true ↔ _
    rw [Bool.and_eq_true]
    simp only [List.map_nil] at ih ⊢
    rw [ih]
    constructor
    ·rintro ⟨h1, h2⟩ k hk
     rcases Nat.lt_or_ge k K with hl | hl
     ·exact h1 k hl
     ·have : k = K := by omega
      subst this
      exact h2
    ·intro h1
     exact ⟨fun k hk => h1 k (by omega), h1 K (by omega)⟩
   | cons x r =>
    have := h x (by simp)
    rw [hB, Nat.zero_pow (by omega)] at this
    omega
  ·have hp : 0 < b.base.toNat ^ K := Nat.pow_pos (by omega)
   have ih := okT_places b may carry K (t.map (· % b.base.toNat ^ K)) (fun x hx => by
    obtain ⟨y, _, rfl⟩ := List.mem_map.1 hx
    exact Nat.mod_lt _ hp)
   show (okT b may carry K (t.map (· % b.base.toNat ^ K)) && okP b may carry K t) = true ↔ _
   rw [Bool.and_eq_true, ih]
   constructor
   ·rintro ⟨h1, h2⟩ k hk
    rcases Nat.lt_or_ge k K with hl | hl
    ·have := h1 k hl
     rwa [map_mod_mod (by omega)] at this
    ·have : k = K := by omega
     subst this
     rw [map_mod_self h]
     exact h2
   ·intro h1
    refine ⟨fun k hk => ?_, ?_⟩
    ·rw [map_mod_mod (by omega)]
     exact h1 k (by omega)
    ·have := h1 K (by omega)
     rwa [map_mod_self h] at this
theorem costT_places (b : Bk) (hB : 0 < b.base.toNat) : ∀ (K : Nat) (t : List Nat), (∀ x ∈ t, x < b.base.toNat ^ K) →
  costT b K t = isum K fun k => costP b k (t.map (· % b.base.toNat ^ (k + 1)))
 | 0, t, _ => rfl
 | K + 1, t, h => by
  have hp : 0 < b.base.toNat ^ K := Nat.pow_pos hB
  have ih := costT_places b hB K (t.map (· % b.base.toNat ^ K)) (fun x hx => by
    obtain ⟨y, _, rfl⟩ := List.mem_map.1 hx
    exact Nat.mod_lt _ hp)
  rw [isum_succ, map_mod_self h, costT, ih, Int.add_assoc]
  rw [show costP b K t = _ from rfl, costP]
  congr 1
  exact isum_congr fun k hk => by rw [map_mod_mod (by omega)]
theorem place_digits {b : Bk} (hB : 0 < b.base.toNat) {t : List Nat} (ht : t.length = b.cords.length) {k : Nat} (hk : k < b.places.toNat) :
  (∀ c, c < b.cords.length → ((t.map (· % b.base.toNat ^ (k + 1))).map (· / b.base.toNat ^ k))[c]?.getD default = dgN b (t ++ [t.sum]) c (b.places.toNat - 1 - k)) ∧
  colT b.base.toNat k (t.map (· % b.base.toNat ^ (k + 1))) % b.base.toNat = dgN b (t ++ [t.sum]) b.cords.length (b.places.toNat - 1 - k) ∧
  colT b.base.toNat k (t.map (· % b.base.toNat ^ (k + 1))) / b.base.toNat = carN b (t ++ [t.sum]) (b.places.toNat - 1 - k) := by
 have e0 : b.places.toNat - 1 - (b.places.toNat - 1 - k) = k := by omega
 have e1 : b.places.toNat - (b.places.toNat - 1 - k) = k + 1 := by omega
 refine ⟨fun c hc => ?_, ?_, ?_⟩
 ·have hc2 : c < t.length := by omega
  unfold dgN
  rw [e0, List.getElem?_append_left hc2]
  simp only [List.getElem?_map, List.getElem?_eq_getElem hc2, Option.map_some, Option.getD_some]
  rw [Nat.pow_succ, Nat.mod_mul_right_div_self]
 ·unfold dgN
  rw [colT_eq hB, e0, ← ht, List.getElem?_append_right (Nat.le_refl _)]
  simp only [Nat.sub_self, List.getElem?_cons_zero, Option.getD_some]
  rw [← Nat.mod_mul_right_div_self, ← Nat.mod_mul_right_div_self, ← Nat.pow_succ, sum_mod]
 ·unfold carN
  rw [colT_eq hB, e1, ← ht, List.take_left, Nat.div_div_eq_div_mul, ← Nat.pow_succ]
theorem okT_all {b : Bk} (hB : 0 < b.base.toNat) (may : Nat → Nat → Nat → Bool) (carry : Nat → Nat → Bool) {t : List Nat} (ht : t ∈ tup b.cords.length (b.base.toNat ^ b.places.toNat)) :
  okT b may carry b.places.toNat t = allOK b may carry (t ++ [t.sum]) := by
 obtain ⟨hl, hlt⟩ := tup_mem.1 ht
 rw [Bool.eq_iff_iff, okT_places b may carry _ t hlt]
 unfold allOK
 rw [List.all_eq_true]
 have key : ∀ k, k < b.places.toNat → (okP b may carry k (t.map (· % b.base.toNat ^ (k + 1))) = true ↔
   (((List.range (b.cords.length + 1)).all fun c => may c (b.places.toNat - 1 - k) (dgN b (t ++ [t.sum]) c (b.places.toNat - 1 - k))) && carry (b.places.toNat - 1 - k) (carN b (t ++ [t.sum]) (b.places.toNat - 1 - k))) = true) := by
  intro k hk
  obtain ⟨d1, d2, d3⟩ := place_digits hB hl hk
  unfold okP colOK
  rw [d2, d3]
  simp only [Bool.and_eq_true, List.all_eq_true, List.mem_range]
  constructor
  ·rintro ⟨h1, h2, h3⟩
   refine ⟨fun c hc => ?_, h3⟩
   rcases Nat.lt_or_ge c b.cords.length with h | h
   ·rw [← d1 c h]; exact h1 c h
   ·rw [show c = b.cords.length by omega]; exact h2
  ·rintro ⟨h1, h3⟩
   exact ⟨fun c hc => by rw [d1 c hc]; exact h1 c (by omega), h1 _ (by omega), h3⟩
 constructor
 ·intro h p hp
  have hp := List.mem_range.1 hp
  have := (key (b.places.toNat - 1 - p) (by omega)).1 (h _ (by omega))
  rwa [show b.places.toNat - 1 - (b.places.toNat - 1 - p) = p by omega] at this
 ·intro h k hk
  exact (key k hk).2 (h _ (List.mem_range.2 (by omega)))
theorem isum_rev (n : Nat) (f : Nat → Int) : (isum n fun k => f (n - 1 - k)) = isum n f := by
 have key : ∀ m, m ≤ n → (isum m fun k => f (n - 1 - k)) + isum (n - m) f = isum n f := by
  intro m
  induction m with
  | zero => intro _; rw [isum_zero, Nat.sub_zero, Int.zero_add]
  | succ m ih =>
   intro h
   have := ih (by omega)
   rw [isum_succ]
   rw [show n - m = (n - (m + 1)) + 1 by omega, isum_succ] at this
   rw [show n - 1 - m = n - (m + 1) by omega]
   omega
 have := key n (Nat.le_refl _)
 rw [Nat.sub_self, isum_zero] at this
 omega
theorem costT_all {b : Bk} (hB : 0 < b.base.toNat) {t : List Nat} (ht : t ∈ tup b.cords.length (b.base.toNat ^ b.places.toNat)) :
  costT b b.places.toNat t = costN b (t ++ [t.sum]) := by
 obtain ⟨hl, hlt⟩ := tup_mem.1 ht
 rw [costT_places b hB _ t hlt]
 unfold costN
 rw [isum_comm]
 refine Eq.trans (isum_congr fun k hk => ?_) (isum_rev b.places.toNat _)
 obtain ⟨d1, d2, d3⟩ := place_digits hB hl hk
 unfold costP
 rw [d2, isum_succ]
 have e2 : cordSp b b.cords.length (b.places.toNat - 1 - k) = topAt b (b.places.toNat - 1 - k) := by simp [cordSp, cordAt, topAt]
 rw [e2]
 congr 1
 show isum b.cords.length _ = _
 refine isum_congr fun c hc => ?_
 rw [d1 c hc]
 have : cordSp b c (b.places.toNat - 1 - k) = spAt b c (b.places.toNat - 1 - k) := by
  unfold cordSp cordAt spAt
  rw [if_neg (by omega)]
 rw [this]
theorem tieN_at (B : Nat) : ∀ (P n p : Nat), p < P → (tieN B P n)[p]?.getD default = ((n / B ^ (P - 1 - p) % B : Nat) : Int)
 | 0, _, _, h => by omega
 | P + 1, n, p, h => by
  rcases Nat.lt_or_ge p P with hl | hl
  ·rw [tieN, List.getElem?_append_left (by rw [tieN_len]; exact hl), tieN_at B P _ p hl, Nat.div_div_eq_div_mul, Nat.mul_comm, ← Nat.pow_succ]
   congr 4
   omega
  ·have : p = P := by omega
   subst this
   rw [tieN, List.getElem?_append_right (by rw [tieN_len]; omega), tieN_len]
   simp
theorem costL_zero {s : Sp} {d : Int} : costL s d = 0 ↔ within d s.lo s.hi = true := by
 unfold costL within
 simp only [decide_eq_true_eq]
 omega
theorem fits_cost {b : Bk} (hv : Val b) {c : Nat} (hc : c ≤ b.cords.length) (l : List Nat) : fitsL (cordAt b c) (tieN b.base.toNat b.places.toNat (l[c]?.getD default)) = true ↔ (isum b.places.toNat fun p => costL (cordSp b c p) (dgN b l c p : Nat)) = 0 := by
 have hlen := (cordAt_val hv hc).1
 rw [isum_eq0 fun p _ => costL_nonneg _ _]
 unfold fitsL
 rw [List.all_eq_true]
 have hl2 : (cordAt b c).length = b.places.toNat := by omega
 rw [hl2]
 constructor
 ·intro h p hp
  have := h p (List.mem_range.2 hp)
  rw [tieN_at _ _ _ _ hp] at this
  exact costL_zero.2 this
 ·intro h p hp
  have hp := List.mem_range.1 hp
  rw [tieN_at _ _ _ _ hp]
  exact costL_zero.1 (h p hp)
theorem sumF_sumsN (b : Bk) (freely : Bool) : ∀ (k : Nat) (first : List Nat) (g : List Nat → Nat),
  sumF (sumsN b freely k first) g = sumF (tup k (allN b)) fun t => if ((List.range k).all fun c => isN b (first.length + c) freely (t[c]?.getD default)) && (decide ((first ++ t).sum < allN b) && (freely || fitsL b.top (tieN b.base.toNat b.places.toNat (first ++ t).sum))) then g (first ++ t ++ [(first ++ t).sum]) else 0
 | 0, first, g => by
  simp only [sumsN, tup, sumF_cons, sumF_nil, List.range_zero, List.all_nil, Bool.true_and, List.append_nil, Nat.add_zero]
  split
  ·rw [sumF_cons, sumF_nil, Nat.add_zero]
  ·rfl
 | k + 1, first, g => by
  rw [sumsN, sumF_flatMap, sumF_filter, sumF_tup_succ]
  refine sumF_congr fun n _ => ?_
  rw [sumF_sumsN b freely k (first ++ [n]) g, sumF_if]
  refine sumF_congr fun t _ => ?_
  have e : ((List.range (k + 1)).all fun c => isN b (first.length + c) freely ((n :: t)[c]?.getD default)) = (isN b first.length freely n && (List.range k).all fun c => isN b ((first ++ [n]).length + c) freely (t[c]?.getD default)) := by
   rw [List.range_succ_eq_map, List.all_cons, List.all_map]
   simp only [Nat.add_zero, List.getElem?_cons_zero, Option.getD_some]
   congr 2
   funext c
   simp only [Function.comp_apply, List.getElem?_cons_succ, List.length_append, List.length_cons, List.length_nil]
   rw [show first.length + c.succ = first.length + (0 + 1) + c by omega]
  rw [e]
  simp only [List.append_assoc, List.singleton_append]
  by_cases h : isN b first.length freely n = true
  ·simp [h]
  ·simp [h]
theorem solveL_r {b : Bk} (hv : Val b) (may : Nat → Nat → Nat → Bool) (carry : Nat → Nat → Bool) :
  (solveL b may carry).r = ((sumF (allNs b) fun l => if allOK b may carry l then 1 else 0 : Nat) : Int) := by
 have hB : 0 < b.base.toNat := by have := hv.hb; omega
 have hp : 0 < b.base.toNat ^ b.places.toNat := Nat.pow_pos hB
 rw [(solveL_sem hv may carry).1]
 have h0 := solveW_LK b may carry b.places.toNat (Nat.le_refl _)
 rw [Nat.sub_self] at h0
 rw [show [((0 : Nat), (0 : Int))] = LK b may carry 0 from rfl, h0, sumF_LK, allNs, sumF_sumsN]
 congr 1
 refine sumF_congr fun t ht => ?_
 have hl := (tup_mem.1 ht).1
 rw [okT_all hB may carry ht, costT_all hB ht, carT_eq hB _ _ (tup_mem.1 ht).2]
 simp only [List.nil_append, Bool.false_or, List.length_nil, Nat.zero_add]
 have e1 : t.sum / b.base.toNat ^ b.places.toNat = 0 ↔ t.sum < allN b := by
  unfold allN
  rw [Nat.div_eq_zero_iff]
  constructor
  ·rintro (h | h)
   ·omega
   ·exact h
  ·exact .inr
 have hnn : ∀ c, 0 ≤ isum b.places.toNat fun p => costL (cordSp b c p) (dgN b (t ++ [t.sum]) c p : Nat) := fun c => isum_nonneg fun p _ => costL_nonneg _ _
 have e2 : costN b (t ++ [t.sum]) = 0 ↔ (((List.range b.cords.length).all fun c => isN b c false (t[c]?.getD default)) && fitsL b.top (tieN b.base.toNat b.places.toNat t.sum)) = true := by
  unfold costN
  rw [isum_eq0 fun c _ => hnn c, Bool.and_eq_true, List.all_eq_true]
  have k1 : ∀ c, c < b.cords.length → (t ++ [t.sum])[c]?.getD default = t[c]?.getD default := fun c hc => by rw [List.getElem?_append_left (by omega)]
  have k2 : (t ++ [t.sum])[b.cords.length]?.getD default = t.sum := by rw [← hl, List.getElem?_append_right (Nat.le_refl _)]; simp
  constructor
  ·intro h
   refine ⟨fun c hc => ?_, ?_⟩
   ·have hc := List.mem_range.1 hc
    unfold isN
    rw [Bool.false_or, ← k1 c hc]
    exact (fits_cost hv (by omega) _).2 (h c (by omega))
   ·have := (fits_cost hv (Nat.le_refl _) (t ++ [t.sum])).2 (h _ (by omega))
    rw [k2] at this
    simpa [cordAt] using this
  ·rintro ⟨h1, h2⟩ c hc
   rcases Nat.lt_or_ge c b.cords.length with h | h
   ·have := h1 c (List.mem_range.2 h)
    unfold isN at this
    rw [Bool.false_or, ← k1 c h] at this
    exact (fits_cost hv (by omega) _).1 this
   ·have hc2 : c = b.cords.length := by omega
    subst hc2
    refine (fits_cost hv (Nat.le_refl _) (t ++ [t.sum])).1 ?_
    rw [k2]
    simpa [cordAt] using h2
 simp only [e1, e2]
 by_cases q1 : allOK b may carry (t ++ [t.sum]) = true
 ·simp only [q1, if_true]
  by_cases q2 : t.sum < allN b
  ·simp only [q2, true_and, decide_true, Bool.true_and]
  ·simp [q2]
 ·simp [q1]
end Go.Proofs.YtggnmemkhookdaaGreatDoor.Kn

set_option linter.unusedSimpArgs false
set_option linter.unusedVariables false
set_option linter.unnecessarySimpa false
namespace Go.Proofs.YtggnmemkhookdaaGreatDoor.Kn
open Go Go.V
def bkK : Bk := ⟨10, 2, [[⟨1, 1⟩, ⟨2, 3⟩], [⟨0, 1⟩, ⟨5, 5⟩]], [⟨2, 2⟩, ⟨7, 8⟩]⟩
def bkL : Bk := ⟨10, 1, [[⟨3, 3⟩], [⟨4, 4⟩]], [⟨9, 9⟩]⟩
theorem smK : Small bkK := ⟨by decide, by decide, by decide⟩
def manyR (b : Bk) (L : List (List Nat)) (may : Nat → Nat → Nat → Bool) (carry : Nat → Nat → Bool) (c p d : Nat) : Int := ((sumF L fun l => if allOK b (onlyF may c p d) carry l then 1 else 0 : Nat) : Int)
def spanR (b : Bk) (L : List (List Nat)) (may : Nat → Nat → Nat → Bool) (carry : Nat → Nat → Bool) (cord place : Nat) (m : Nat) : Sp :=
 (List.range m).foldl (fun s d => if 0 < manyR b L may carry cord place d then ⟨min s.lo d, max s.hi d⟩ else s) ⟨b.base, 0⟩
def endR (b : Bk) (L : List (List Nat)) (carry : Nat → Nat → Bool) (cord : Nat) (sel : Sp → Int) : Nat → Nat → (Nat → Nat → Nat → Bool) → Int → Int
 | _, 0, _, n => n
 | p, k + 1, may, n => endR b L carry cord sel (p + 1) k (onlyF may cord p (sel (spanR b L may carry cord p b.base.toNat)).toNat) (numL b.base [n, sel (spanR b L may carry cord p b.base.toNat)])
theorem manyD_R {b : Bk} (hv : Val b) (may : Nat → Nat → Nat → Bool) (carry : Nat → Nat → Bool) (c p d : Nat) : manyD b may carry c p d = manyR b (allNs b) may carry c p d := solveL_r hv _ _
theorem spanD_R {b : Bk} (hv : Val b) (may : Nat → Nat → Nat → Bool) (carry : Nat → Nat → Bool) (c p m : Nat) : spanD b may carry c p m = spanR b (allNs b) may carry c p m := by
 unfold spanD spanR
 congr 1
 funext s d
 rw [manyD_R hv]
theorem endF_R {b : Bk} (hv : Val b) (carry : Nat → Nat → Bool) (cord : Nat) (sel : Sp → Int) : ∀ (k p : Nat) (may : Nat → Nat → Nat → Bool) (n : Int), endF b carry cord sel p k may n = endR b (allNs b) carry cord sel p k may n
 | 0, _, _, _ => rfl
 | k + 1, p, may, n => by
  rw [endF, endR, spanD_R hv, endF_R hv carry cord sel k]
theorem ag25 : aggOf Tryz.prog 25 = some true := by kernel_rfl
theorem sz25 : szOf Tryz.prog 25 = some 4 := by kernel_rfl
attribute [go_sem] ag25 sz25
theorem c19 : Ctr Tryz.prog 19 [] (.tup [KB bkK, KB bkL]) := by
 refine ctr_of_wp hmix Tryz.func19 m19 rfl ?_
 unfold v19
 simp -failIfUnchanged (disch := first|omega|(simp [wcs_len]<;>omega)|fail) only [go_sem,simprocAttr]
 try rfl
end Go.Proofs.YtggnmemkhookdaaGreatDoor.Kn

set_option linter.unusedSimpArgs false
set_option linter.unusedVariables false
set_option linter.unnecessarySimpa false
namespace Go.Proofs.YtggnmemkhookdaaGreatDoor.Kn
open Go Go.V
def hugeB (b : Bk) : Bool := decide (40 < (b.cords.length : Int)) || (decide (40 < (b.top.length : Int)) || b.cords.any fun l => decide (40 < (l.length : Int)))
theorem c15 (b : Bk) (h1 : b.cords.length < 9223372036854775808) : Ctr Tryz.prog 15 [KB b] (.bool (hugeB b)) := by
 refine ctr_of_wp hmix Tryz.func15 m15 rfl ?_
 unfold v15 hugeB
 simp -failIfUnchanged (disch := first|omega|(simp [wcs_len]<;>omega)|fail) only [go_sem,simprocAttr]
 refine WGd_bool (fun h => ?_) (fun h => ?_)
 ·simp -failIfUnchanged (disch := first|omega|(simp [wcs_len]<;>omega)|fail) only [go_sem,simprocAttr, h]
  refine wcond_dec (fun h2 => ?_) (fun h2 => ?_)
  ·simp -failIfUnchanged (disch := first|omega|(simp [wcs_len]<;>omega)|fail) only [go_sem,simprocAttr, h2]
  ·have h40 : ¬ 40 < (b.cords.length : Int) := by
    simpa using h
   simp -failIfUnchanged (disch := first|omega|(simp [wcs_len]<;>omega)|fail) only [go_sem,simprocAttr, h2]
   refine wp_loop' Nat (fun i => ⟨[(1, .ptr 1 0), (3, .int i)], [(1, ⟨[.int b.base, .int b.places, .sl 1 (b.cords.map SS) .sh, SS b.top], false⟩)], [], none⟩) (fun i => i ≤ b.cords.length ∧ ∀ x ∈ b.cords.take i, decide (40 < (x.length : Int)) = false) (fun i => b.cords.length - i) 0 (by simp) (by simp -failIfUnchanged (disch := first|omega|(simp [wcs_len]<;>omega)|fail) only [go_sem,simprocAttr]; try rfl) ?_
   rintro i ⟨hi, hpre⟩
   simp -failIfUnchanged (disch := first|omega|(simp [wcs_len]<;>omega)|fail) only [go_sem,simprocAttr]
   refine wcond_dec (fun h3 => ?_) (fun h3 => ?_)
   ·have hlt : i < b.cords.length := by omega
    simp -failIfUnchanged (disch := first|omega|(simp [wcs_len]<;>omega)|fail) only [go_sem,simprocAttr]
    refine wcond_dec (fun h4 => ?_) (fun h4 => ?_)
    ·simp -failIfUnchanged (disch := first|omega|(simp [wcs_len]<;>omega)|fail) only [go_sem,simprocAttr]
     have : b.cords.any (fun l => decide (40 < (l.length : Int))) = true := List.any_eq_true.2 ⟨_, mem_getD hlt, by simpa using h4⟩
     simp [this]
    ·simp -failIfUnchanged (disch := first|omega|(simp [wcs_len]<;>omega)|fail) only [go_sem,simprocAttr]
     refine ⟨i + 1, ⟨by omega, take_succ_all hlt hpre (by simpa using h4)⟩, by dsimp only; omega, ?_⟩
     simp -failIfUnchanged (disch := first|omega|(simp [wcs_len]<;>omega)|fail) only [go_sem,simprocAttr]
     try simp
   ·simp -failIfUnchanged (disch := first|omega|(simp [wcs_len]<;>omega)|fail) only [go_sem,simprocAttr]
    have e : i = b.cords.length := by omega
    have : b.cords.any (fun l => decide (40 < (l.length : Int))) = false := by
     rw [List.any_eq_false]
     intro x hx
     have := hpre x (by rw [e, List.take_length]; exact hx)
     simpa using this
    rw [this]
 ·simp -failIfUnchanged (disch := first|omega|(simp [wcs_len]<;>omega)|fail) only [go_sem,simprocAttr, h]
theorem small_of_huge {b : Bk} (h : hugeB b = false) : b.cords.length ≤ 40 ∧ b.top.length ≤ 40 ∧ ∀ l ∈ b.cords, l.length ≤ 40 := by
 simp only [hugeB, Bool.or_eq_false_iff, decide_eq_false_iff_not, List.any_eq_false, decide_eq_true_eq] at h
 obtain ⟨h1, h2, h3⟩ := h
 exact ⟨by omega, by omega, fun l hl => by have := h3 l hl; omega⟩
theorem small_small {b : Bk} (h : hugeB b = false) : Small b := by
 obtain ⟨h1, h2, h3⟩ := small_of_huge h
 exact ⟨by omega, by omega, fun l hl => by have := h3 l hl; omega⟩
theorem ag25' : aggOf Tryz.prog 25 = some true := by kernel_rfl
theorem sz25' : szOf Tryz.prog 25 = some 4 := by kernel_rfl
attribute [go_sem] ag25' sz25'
end Go.Proofs.YtggnmemkhookdaaGreatDoor.Kn

set_option linter.unusedSimpArgs false
set_option linter.unusedVariables false
set_option linter.unnecessarySimpa false
namespace Go.Proofs.YtggnmemkhookdaaGreatDoor.Kn
open Go Go.V
theorem allOK_iff (b : Bk) (may : Nat → Nat → Nat → Bool) (carry : Nat → Nat → Bool) (l : List Nat) : allOK b may carry l = true ↔ ∀ p, p < b.places.toNat → (∀ c, c < b.cords.length + 1 → may c p (dgN b l c p) = true) ∧ carry p (carN b l p) = true := by
 unfold allOK
 simp only [List.all_eq_true, List.mem_range, Bool.and_eq_true]
theorem allOK_only {b : Bk} {may : Nat → Nat → Nat → Bool} {carry : Nat → Nat → Bool} {c p d : Nat} (hc : c ≤ b.cords.length) (hp : p < b.places.toNat) (l : List Nat) :
  allOK b (onlyF may c p d) carry l = (allOK b may carry l && decide (dgN b l c p = d)) := by
 rw [Bool.eq_iff_iff, Bool.and_eq_true, allOK_iff, allOK_iff, decide_eq_true_eq]
 constructor
 ·intro h
  refine ⟨fun q hq => ⟨fun e he => ?_, (h q hq).2⟩, ?_⟩
  ·have := (h q hq).1 e he
   simp only [onlyF, Bool.and_eq_true] at this
   exact this.1
  ·have := (h p hp).1 c (by omega)
   simp only [onlyF, Bool.and_eq_true, Bool.or_eq_true, decide_eq_true_eq] at this
   rcases this.2 with h | h | h
   ·exact absurd trivial h
   ·exact absurd trivial h
   ·exact h
 ·rintro ⟨h, h2⟩ q hq
  refine ⟨fun e he => ?_, (h q hq).2⟩
  simp only [onlyF, Bool.and_eq_true, (h q hq).1 e he, true_and, Bool.or_eq_true, decide_eq_true_eq]
  by_cases e1 : e = c
  ·by_cases e2 : q = p
   ·subst e1 e2; exact .inr (.inr h2)
   ·exact .inr (.inl e2)
  ·exact .inl e1
theorem allOK_yes (b : Bk) (l : List Nat) : allOK b yes3 yes2 l = true := by
 rw [allOK_iff]
 exact fun _ _ => ⟨fun _ _ => rfl, rfl⟩
theorem take_snoc {α : Type} [Inhabited α] {l : List α} {k : Nat} (h : k < l.length) : l.take (k + 1) = l.take k ++ [l[k]?.getD default] := by
 rw [List.take_add_one, List.getElem?_eq_getElem h]
 rfl
theorem many_len {b : Bk} (hv : Val b) : (solveL b yes3 yes2).r = (allNs b).length := by
 rw [solveL_r hv, ← sumF_len]
 congr 1
 exact sumF_congr fun l _ => by rw [allOK_yes]; rfl
end Go.Proofs.YtggnmemkhookdaaGreatDoor.Kn

set_option linter.unusedSimpArgs false
set_option linter.unusedVariables false
set_option linter.unnecessarySimpa false
namespace Go.Proofs.YtggnmemkhookdaaGreatDoor.Kn
open Go Go.V
theorem numL2 (base : Int) (l : List Int) (x : Int) : numL base (l ++ [x]) = numL base [numL base l, x] := by
 unfold numL
 rw [List.foldl_append]
 simp only [List.foldl_cons, List.foldl_nil, Int.zero_mul, Int.zero_add]
 generalize List.foldl (fun n d => w64 (w64 (n * base) + d)) 0 l = y
 have : ∀ z : Int, w64 (w64 (w64 (w64 0 + z) * base) + x) = w64 (w64 (z * base) + x) := by
  intro z
  have h0 : w64 0 = 0 := by decide
  rw [h0, Int.zero_add]
  have e1 : w64 (w64 z * base) = w64 (z * base) := by
   have h1 : ∀ a b : Int, a % 18446744073709551616 = b % 18446744073709551616 → w64 a = w64 b := by
    intro a b h
    rw [w64_eq, w64_eq, h]
   apply h1
   have h2 : ∀ a : Int, w64 a % 18446744073709551616 = a % 18446744073709551616 := by
    intro a
    rw [w64_eq]
    simp only [Bool.true_and, decide_eq_true_eq]
    split <;> omega
   rw [Int.mul_emod, h2, ← Int.mul_emod]
  rw [e1]
 exact (this y).symm
theorem ends_num (base : Int) (l : List Sp) : endsL base l = ⟨numL base (l.map fun s => s.lo), numL base (l.map fun s => s.hi)⟩ := by
 have key : ∀ (l : List Sp) (a b : List Int), l.foldl (fun o s => (⟨numL base [o.lo, s.lo], numL base [o.hi, s.hi]⟩ : Sp)) ⟨numL base a, numL base b⟩ = ⟨numL base (a ++ l.map fun s => s.lo), numL base (b ++ l.map fun s => s.hi)⟩ := by
  intro l
  induction l with
  | nil => intro a b; simp
  | cons s r ih =>
   intro a b
   simp only [List.foldl_cons]
   rw [← numL2, ← numL2, ih]
   simp
 have := key l [] []
 simpa [endsL, numL] using this
end Go.Proofs.YtggnmemkhookdaaGreatDoor.Kn

set_option linter.unusedSimpArgs false
set_option linter.unusedVariables false
set_option linter.unnecessarySimpa false
namespace Go.Proofs.YtggnmemkhookdaaGreatDoor.Kn
open Go Go.V
theorem allC_at {b : Bk} (c : Nat) (h : c ≤ b.cords.length) : (allC b)[c]?.getD default = cordAt b c := by
 unfold allC cordAt
 split
 ·next e => subst e; simp
 ·next e =>
  rw [List.getElem?_append_left (by omega)]
def tieR (b : Bk) (n : Int) : List Int × Int := if checkB b then if within n 0 ((allN b : Int) - 1) then (tieN b.base.toNat b.places.toNat n.toNat, 0) else ([], 1) else ([], 110)
def cordR (b : Bk) (c : Int) : Sp × Int := if checkB b then if within c 0 b.cords.length then (endsL b.base (cordAt b c.toNat), 0) else (⟨0, 0⟩, 1) else (⟨0, 0⟩, 110)
theorem c21r (b : Bk) (hs : Small b) (n : Int) : Ctr Tryz.prog 21 [KB b, .int n] (.tup [IS (tieR b n).1, .int (tieR b n).2]) := by
 have := c21t b hs n
 unfold tieR
 cases hc : checkB b with
 | false => simpa [hc, IS] using this
 | true =>
  have hv := val_of_check hc
  obtain ⟨hp1, hp2⟩ := hv.hp
  have hall := allN_le hv
  have e : w64 (mostT b (min 4 (max 0 b.places)).toNat - 1) = (allN b : Int) - 1 := by
   have : (min 4 (max 0 b.places)).toNat = b.places.toNat := by omega
   rw [this, (mostT_eq hv.hb _ (by omega)).1]
   have : allN b = b.base.toNat ^ b.places.toNat := rfl
   rw [← this, w64_id] <;> omega
  rw [e] at this
  cases hw : within n 0 ((allN b : Int) - 1) with
  | false => simpa [hc, hw, IS] using this
  | true => simpa [hc, hw, IS] using this
theorem c8r (b : Bk) (hs : Small b) (c : Int) : Ctr Tryz.prog 8 [KB b, .int c] (.tup [SP (cordR b c).1, .int (cordR b c).2]) := by
 have := c8 b hs c
 unfold cordR
 cases hc : checkB b with
 | false => simpa [hc] using this
 | true =>
  cases hw : within c 0 b.cords.length with
  | false => simpa [hc, hw] using this
  | true =>
   have hw' : 0 ≤ c ∧ c ≤ b.cords.length := by simpa [within] using hw
   rw [allC_at _ (by omega)] at this
   simpa [hc, hw] using this
end Go.Proofs.YtggnmemkhookdaaGreatDoor.Kn

set_option linter.unusedSimpArgs false
set_option linter.unusedVariables false
set_option linter.unnecessarySimpa false
namespace Go.Proofs.YtggnmemkhookdaaGreatDoor.Kn
open Go Go.V
theorem map_choose {α β γ : Type} {F : α → γ} {G : β → γ} {Q : β → Prop} : ∀ (es : List α), (∀ x ∈ es, ∃ s, F x = G s ∧ Q s) → ∃ l : List β, es.map F = l.map G ∧ l.length = es.length ∧ ∀ s ∈ l, Q s
 | [], _ => ⟨[], rfl, rfl, by simp⟩
 | x :: r, h => by
  obtain ⟨s, h1, h2⟩ := h x (by simp)
  obtain ⟨l, h3, h4, h5⟩ := map_choose r fun y hy => h y (by simp [hy])
  refine ⟨s :: l, by simp [h1, h3], by simp [h4], ?_⟩
  intro t ht
  rcases List.mem_cons.1 ht with rfl | ht
  ·exact h2
  ·exact h5 t ht
theorem ty_sp {cs : List AV} (h : Ty (.st [.int, .int]) cs) : ∃ s : Sp, cs = [.int s.lo, .int s.hi] := by
 simp only [Ty, TyL] at h
 obtain ⟨a, b, rfl, ⟨n, _, rfl⟩, c, d, rfl, ⟨m, _, rfl⟩, rfl⟩ := h
 exact ⟨⟨n, m⟩, rfl⟩
theorem ty_ss {cs : List AV} (h : Ty (.sl (.st [.int, .int])) cs) : ∃ l : List Sp, cs = [SS l] ∧ l.length < 9223372036854775808 := by
 rw [Ty] at h
 obtain ⟨es, rfl, h1, h2⟩ := h
 obtain ⟨l, h3, h4, _⟩ := map_choose (F := fun x => if TC.isSt (.st [.int, .int]) then AV.agg x else x[0]?.getD .und) (G := SP) (Q := fun _ => True) es (fun x hx => by
  obtain ⟨s, rfl⟩ := ty_sp (h2 x hx)
  exact ⟨s, rfl, trivial⟩)
 refine ⟨l, ?_, by omega⟩
 rw [h3]
 rfl
theorem ty_cs {cs : List AV} (h : Ty (.sl (.sl (.st [.int, .int]))) cs) : ∃ l : List (List Sp), cs = [.sl 1 (l.map SS) .sh] ∧ l.length < 9223372036854775808 ∧ ∀ x ∈ l, x.length < 9223372036854775808 := by
 rw [Ty] at h
 obtain ⟨es, rfl, h1, h2⟩ := h
 obtain ⟨l, h3, h4, h5⟩ := map_choose (F := fun x => if TC.isSt (.sl (.st [.int, .int])) then AV.agg x else x[0]?.getD .und) (G := SS) (Q := fun s => s.length < 9223372036854775808) es (fun x hx => by
  obtain ⟨s, rfl, hs⟩ := ty_ss (h2 x hx)
  exact ⟨s, rfl, hs⟩)
 refine ⟨l, ?_, by omega, h5⟩
 rw [h3]
 rfl
abbrev tcB : TC := .st [.int, .int, .sl (.sl (.st [.int, .int])), .sl (.st [.int, .int])]
theorem ty_book {av : AV} (h : TyV tcB av) : ∃ b : Bk, av = KB b ∧ b.cords.length < 9223372036854775808 ∧ b.top.length < 9223372036854775808 ∧ ∀ x ∈ b.cords, x.length < 9223372036854775808 := by
 obtain ⟨cs, rfl, h⟩ := h
 simp only [TyL] at h
 obtain ⟨a, x, rfl, ha, b, y, rfl, hb, c, z, rfl, hc, d, u, rfl, hd, rfl⟩ := h
 rw [Ty] at ha hb
 obtain ⟨n, _, rfl⟩ := ha
 obtain ⟨m, _, rfl⟩ := hb
 obtain ⟨l, rfl, h1, h2⟩ := ty_cs hc
 obtain ⟨t, rfl, h3⟩ := ty_ss hd
 exact ⟨⟨n, m, l, t⟩, rfl, h1, h3, h2⟩
theorem ty_int {av : AV} (h : TyV .int av) : ∃ n : Int, av = .int n ∧ -9223372036854775808 ≤ n ∧ n ≤ 9223372036854775807 := by
 have h' : Ty .int [av] := h
 rw [Ty] at h'
 obtain ⟨n, h1, h2⟩ := h'
 exact ⟨n, by simpa using h2, h1.1, h1.2⟩
theorem laidOutP : laidOutB Tryz.prog = true := by kernel_rfl
end Go.Proofs.YtggnmemkhookdaaGreatDoor.Kn

set_option linter.unusedSimpArgs false
set_option linter.unusedVariables false
set_option linter.unnecessarySimpa false
namespace Go.Proofs.YtggnmemkhookdaaGreatDoor.Kn
open Go Go.V
theorem numL_tie (B : Nat) (hB : 2 ≤ B ∧ B ≤ 10) : ∀ P n, P ≤ 4 → n < B ^ P → numL (B : Int) (tieN B P n) = n
 | 0, n, _, h => by
  have : n = 0 := by simpa using h
  subst this
  rfl
 | P + 1, n, hP, h => by
  have hn : n / B < B ^ P := by
   rw [Nat.div_lt_iff_lt_mul (by omega), ← Nat.pow_succ]
   exact h
  have hle : B ^ (P + 1) ≤ 10000 := pow_le hB.2 hP
  have ih := numL_tie B hB P (n / B) (by omega) hn
  have e : numL (B : Int) (tieN B (P + 1) n) = w64 (w64 (((n / B : Nat) : Int) * B) + ((n % B : Nat) : Int)) := by
   show numL (B : Int) (tieN B P (n / B) ++ [((n % B : Nat) : Int)]) = _
   unfold numL at ih ⊢
   rw [List.foldl_append, ih]
   rfl
  have hd : B * (n / B) + n % B = n := Nat.div_add_mod n B
  have hm : B * (n / B) ≤ n := by omega
  have e2 : ((n / B : Nat) : Int) * B = ((B * (n / B) : Nat) : Int) := by rw [Nat.mul_comm]; exact (Int.natCast_mul _ _).symm
  rw [e, e2, w64_id (n := ((B * (n / B) : Nat) : Int)) (by omega), w64_id (n := ((B * (n / B) : Nat) : Int) + ((n % B : Nat) : Int)) (by omega)]
  omega
end Go.Proofs.YtggnmemkhookdaaGreatDoor.Kn

set_option linter.unusedSimpArgs false
set_option linter.unusedVariables false
set_option linter.unnecessarySimpa false
namespace Go.Proofs.YtggnmemkhookdaaGreatDoor.Kn
open Go Go.V
end Go.Proofs.YtggnmemkhookdaaGreatDoor.Kn

set_option linter.unusedSimpArgs false
set_option linter.unusedVariables false
set_option linter.unnecessarySimpa false
namespace Go.Proofs.YtggnmemkhookdaaGreatDoor.Kn
open Go Go.V
theorem numL_bd {base : Int} (hb : 2 ≤ base ∧ base ≤ 10) : ∀ (l : List Int) (k : Nat) (n : Int), (∀ d ∈ l, 0 ≤ d ∧ d < base) → 0 ≤ n → n < ((10 ^ k : Nat) : Int) → k + l.length ≤ 4 →
  0 ≤ l.foldl (fun n d => w64 (w64 (n * base) + d)) n ∧ l.foldl (fun n d => w64 (w64 (n * base) + d)) n < ((10 ^ (k + l.length) : Nat) : Int)
 | [], k, n, _, h1, h2, _ => ⟨h1, h2⟩
 | d :: r, k, n, hd, h1, h2, hk => by
  simp only [List.length_cons] at hk
  have h10 : 10 ^ k ≤ 1000 := by
   have : k = 0 ∨ k = 1 ∨ k = 2 ∨ k = 3 := by omega
   rcases this with rfl | rfl | rfl | rfl <;> decide
  obtain ⟨d1, d2⟩ := hd d (by simp)
  have m1 : 0 ≤ n * base := Int.mul_nonneg h1 (by omega)
  have m2 : n * base ≤ n * 10 := Int.mul_le_mul_of_nonneg_left hb.2 h1
  have e1 : w64 (n * base) = n * base := w64_id (by omega)
  have e2 : w64 (n * base + d) = n * base + d := w64_id (by omega)
  have h3 : n * base + d < ((10 ^ (k + 1) : Nat) : Int) := by
   rw [Nat.pow_succ]
   omega
  have := numL_bd hb r (k + 1) (n * base + d) (fun x hx => hd x (by simp [hx])) (by omega) h3 (by omega)
  simp only [List.foldl_cons, e1, e2, List.length_cons]
  rw [show k + (r.length + 1) = k + 1 + r.length by omega]
  exact this
end Go.Proofs.YtggnmemkhookdaaGreatDoor.Kn

set_option linter.unusedSimpArgs false
set_option linter.unusedVariables false
set_option linter.unnecessarySimpa false
namespace Go.Proofs.YtggnmemkhookdaaGreatDoor.Kn
open Go Go.V
end Go.Proofs.YtggnmemkhookdaaGreatDoor.Kn

set_option linter.unusedSimpArgs false
set_option linter.unusedVariables false
set_option linter.unnecessarySimpa false
namespace Go.Proofs.YtggnmemkhookdaaGreatDoor.Kn
open Go Go.V
end Go.Proofs.YtggnmemkhookdaaGreatDoor.Kn

set_option linter.unusedSimpArgs false
set_option linter.unusedVariables false
set_option linter.unnecessarySimpa false
namespace Go.Proofs.YtggnmemkhookdaaGreatDoor.Kn
open Go Go.V
def wS (s : Sp) : Nat := (s.hi - s.lo + 1).toNat
def prodS (l : List Sp) : Nat := l.foldl (fun n s => n * wS s) 1
def farN (b : Bk) (i : Nat) : Nat := (b.cords.take i).foldl (fun n l => n * prodS l) 1
def farP (b : Bk) : Bool := (List.range b.cords.length).any fun i => (List.range (b.cords[i]?.getD default).length).any fun p => decide (400 < farN b i * prodS ((b.cords[i]?.getD default).take (p + 1)))
def farB (b : Bk) : Bool := hugeB b || (checkB b && (farP b || decide (1000 < allN b)))
theorem prodS_snoc (l : List Sp) (s : Sp) : prodS (l ++ [s]) = prodS l * wS s := by
 simp [prodS, List.foldl_append]
theorem farN_succ (b : Bk) {i : Nat} (h : i < b.cords.length) : farN b (i + 1) = farN b i * prodS (b.cords[i]?.getD default) := by
 unfold farN
 rw [take_snoc h, List.foldl_append]
 rfl
end Go.Proofs.YtggnmemkhookdaaGreatDoor.Kn

set_option linter.unusedSimpArgs false
set_option linter.unusedVariables false
set_option linter.unnecessarySimpa false
namespace Go.Proofs.YtggnmemkhookdaaGreatDoor.Kn
open Go Go.V
theorem c4 (b : Bk) (h1 : b.cords.length < 9223372036854775808) : Ctr Tryz.prog 4 [KB b] (.bool (farB b)) := by
 refine ctr_of_wp hmix Tryz.func4 m4 rfl ?_
 unfold v4 farB
 simp -failIfUnchanged (disch := first|omega|(simp [wcs_len]<;>omega)|fail) only [go_sem,simprocAttr]
 refine wcall (c15 b h1) ?_
 cases hh : hugeB b with
 | true => simp -failIfUnchanged (disch := first|omega|(simp [wcs_len]<;>omega)|fail) only [go_sem,simprocAttr]
 | false =>
  have hs := small_small hh
  obtain ⟨k1, k2, k3⟩ := small_of_huge hh
  simp -failIfUnchanged (disch := first|omega|(simp [wcs_len]<;>omega)|fail) only [go_sem,simprocAttr]
  refine wcall (c5 b hs) ?_
  cases hc : checkB b with
  | false => simp -failIfUnchanged (disch := first|omega|(simp [wcs_len]<;>omega)|fail) only [go_sem,simprocAttr]
  | true =>
   have hv := val_of_check hc
   have hbb := hv.hb
   simp -failIfUnchanged (disch := first|omega|(simp [wcs_len]<;>omega)|fail) only [go_sem,simprocAttr]
   refine wp_loop' Nat (fun i => ⟨[(1, .ptr 1 0), (3, .int (farN b i)), (4, .int i)], [(1, ⟨[.int b.base, .int b.places, .sl 1 (b.cords.map SS) .sh, SS b.top], false⟩)], [], none⟩) (fun i => i ≤ b.cords.length ∧ farN b i ≤ 400 ∧ ∀ j, j < i → ((List.range (b.cords[j]?.getD default).length).any fun p => decide (400 < farN b j * prodS ((b.cords[j]?.getD default).take (p + 1)))) = false) (fun i => b.cords.length - i) 0 ⟨by simp, by simp [farN], by simp⟩ (by simp -failIfUnchanged (disch := first|omega|(simp [wcs_len]<;>omega)|fail) only [go_sem,simprocAttr]; try simp [farN]) ?_
   rintro i ⟨hi, hn, hpre⟩
   simp -failIfUnchanged (disch := first|omega|(simp [wcs_len]<;>omega)|fail) only [go_sem,simprocAttr]
   refine wcond_dec (fun h5 => ?_) (fun h5 => ?_)
   ·have hlt : i < b.cords.length := by omega
    have hcv := cordAt_val hv (n := i) (by omega)
    have hci : cordAt b i = b.cords[i]?.getD default := by
     unfold cordAt
     rw [if_neg (by omega)]
    have hl3 := k3 _ (mem_getD hlt)
    have hfs := farN_succ b hlt
    rw [hci] at hcv
    have hyes : ∀ p, p < (b.cords[i]?.getD default).length → 400 < farN b i * prodS ((b.cords[i]?.getD default).take (p + 1)) → farP b = true := by
     intro p hp hq
     exact List.any_eq_true.2 ⟨i, by simpa using hlt, List.any_eq_true.2 ⟨p, by simpa using hp, by simpa using hq⟩⟩
    generalize hl : b.cords[i]?.getD default = l at *
    obtain ⟨hcv1, hcv2⟩ := hcv
    simp -failIfUnchanged (disch := first|omega|(simp [wcs_len]<;>omega)|fail) only [go_sem,simprocAttr]
    refine wp_loop' Nat (fun p => ⟨[(1, .ptr 1 0), (3, .int (farN b i * prodS (l.take p) : Nat)), (4, .int i), (5, .int p)], [(1, ⟨[.int b.base, .int b.places, .sl 1 (b.cords.map SS) .sh, SS b.top], false⟩)], [], none⟩) (fun p => p ≤ l.length ∧ farN b i * prodS (l.take p) ≤ 400 ∧ ∀ q, q < p → decide (400 < farN b i * prodS (l.take (q + 1))) = false) (fun p => l.length - p) 0 ⟨by simp, by simpa [prodS] using hn, by simp⟩ (by simp -failIfUnchanged (disch := first|omega|(simp [wcs_len]<;>omega)|fail) only [go_sem,simprocAttr]; try simp [prodS]) ?_
    rintro p ⟨hp, hn2, hpre2⟩
    simp -failIfUnchanged (disch := first|omega|(simp [wcs_len]<;>omega)|fail) only [go_sem,simprocAttr, hl]
    refine wcond_dec (fun h7 => ?_) (fun h7 => ?_)
    ·have hplt : p < l.length := by omega
     obtain ⟨s1, s2, s3⟩ := hcv2 _ (mem_getD hplt)
     have hsn : prodS (l.take (p + 1)) = prodS (l.take p) * wS (l[p]?.getD default) := by rw [take_snoc hplt, prodS_snoc]
     have hw : (wS (l[p]?.getD default) : Int) = (l[p]?.getD default).hi - (l[p]?.getD default).lo + 1 := by unfold wS; omega
     have hw10 : wS (l[p]?.getD default) ≤ 10 := by omega
     have hnn : farN b i * prodS (l.take (p + 1)) = farN b i * prodS (l.take p) * wS (l[p]?.getD default) := by rw [hsn, Nat.mul_assoc]
     have hy := hyes p hplt
     have hmul : farN b i * prodS (l.take p) * wS (l[p]?.getD default) ≤ 400 * 10 := Nat.mul_le_mul hn2 hw10
     have hcast : ((farN b i * prodS (l.take (p + 1)) : Nat) : Int) = ((farN b i * prodS (l.take p) : Nat) : Int) * ((l[p]?.getD default).hi - (l[p]?.getD default).lo + 1) := by
      rw [hnn, Int.natCast_mul, hw]
     generalize hN : farN b i * prodS (l.take p) = N at *
     generalize hM : farN b i * prodS (l.take (p + 1)) = M at *
     generalize hs0 : l[p]?.getD default = s at *
     have e1 : w64 (s.hi - s.lo) = s.hi - s.lo := w64_id (by omega)
     have e2 : w64 (s.hi - s.lo + 1) = s.hi - s.lo + 1 := w64_id (by omega)
     have e3 : w64 ((N : Int) * (s.hi - s.lo + 1)) = (M : Int) := by
      rw [← hcast]
      exact w64_id (by omega)
     simp -failIfUnchanged (disch := first|omega|(simp [wcs_len]<;>omega)|fail) only [go_sem,simprocAttr, hl, hs0, e1, e2, e3]
     refine wcond_dec (fun h8 => ?_) (fun h8 => ?_)
     ·simp -failIfUnchanged (disch := first|omega|(simp [wcs_len]<;>omega)|fail) only [go_sem,simprocAttr]
      simp [hy (by omega)]
     ·simp -failIfUnchanged (disch := first|omega|(simp [wcs_len]<;>omega)|fail) only [go_sem,simprocAttr]
      refine ⟨p + 1, ⟨by omega, by omega, fun q hq => ?_⟩, by dsimp only; omega, ?_⟩
      ·rcases Nat.lt_or_ge q p with hq2 | hq2
       ·exact hpre2 q hq2
       ·have : q = p := by omega
        subst this
        rw [hM]
        simpa using by omega
      ·dsimp only
       rw [hM]
       simp -failIfUnchanged (disch := first|omega|(simp [wcs_len]<;>omega)|fail) only [go_sem,simprocAttr]
       try simp
    ·have e : p = l.length := by omega
     subst e
     rw [List.take_length] at hn2
     rw [List.take_length, ← hfs]
     simp -failIfUnchanged (disch := first|omega|(simp [wcs_len]<;>omega)|fail) only [go_sem,simprocAttr]
     refine ⟨i + 1, ⟨by omega, by rw [hfs]; exact hn2, fun j hj => ?_⟩, by dsimp only; omega, ?_⟩
     ·rcases Nat.lt_or_ge j i with hj2 | hj2
      ·exact hpre j hj2
      ·have : j = i := by omega
       subst this
       rw [hl]
       exact List.any_eq_false.2 fun q hq => by rw [hpre2 q (by simpa using hq)]; simp
     ·simp -failIfUnchanged (disch := first|omega|(simp [wcs_len]<;>omega)|fail) only [go_sem,simprocAttr]
      simp
   ·have e : i = b.cords.length := by omega
    subst e
    have : farP b = false := List.any_eq_false.2 fun j hj => by rw [hpre j (by simpa using hj)]; simp
    rw [this]
    simp -failIfUnchanged (disch := first|omega|(simp [wcs_len]<;>omega)|fail) only [go_sem,simprocAttr]
    refine wcall (c9 b hv) ?_
    simp -failIfUnchanged (disch := first|omega|(simp [wcs_len]<;>omega)|fail) only [go_sem,simprocAttr]
    try simp
    try omega
end Go.Proofs.YtggnmemkhookdaaGreatDoor.Kn

set_option linter.unusedSimpArgs false
set_option linter.unusedVariables false
set_option linter.unnecessarySimpa false
namespace Go.Proofs.YtggnmemkhookdaaGreatDoor.Kn
open Go Go.V
end Go.Proofs.YtggnmemkhookdaaGreatDoor.Kn

set_option linter.unusedSimpArgs false
set_option linter.unusedVariables false
set_option linter.unnecessarySimpa false
namespace Go.Proofs.YtggnmemkhookdaaGreatDoor.Kn
open Go Go.V
theorem far_false {b : Bk} (h : farB b = false) : hugeB b = false ∧ (checkB b = true → farP b = false ∧ allN b ≤ 1000) := by
 simp only [farB, Bool.or_eq_false_iff, Bool.and_eq_false_iff, decide_eq_false_iff_not] at h
 refine ⟨h.1, fun hc => ?_⟩
 rw [hc] at h
 rcases h.2 with h2 | h2
 ·simp at h2
 ·exact ⟨h2.1, by omega⟩
end Go.Proofs.YtggnmemkhookdaaGreatDoor.Kn

set_option linter.unusedSimpArgs false
set_option linter.unusedVariables false
set_option linter.unnecessarySimpa false
namespace Go.Proofs.YtggnmemkhookdaaGreatDoor.Kn
open Go Go.V
def spF (base : Int) (Q : Nat → Prop) [DecidablePred Q] (m : Nat) : Sp := (List.range m).foldl (fun s d => if Q d then ⟨min s.lo d, max s.hi d⟩ else s) ⟨base, 0⟩
theorem spF_spec (base : Int) (Q : Nat → Prop) [DecidablePred Q] : ∀ m : Nat, (m : Int) ≤ base →
  ((∀ d, d < m → ¬ Q d) ∧ spF base Q m = ⟨base, 0⟩) ∨ ∃ lo hi : Nat, lo < m ∧ hi < m ∧ Q lo ∧ Q hi ∧ spF base Q m = ⟨lo, hi⟩ ∧ ∀ d, d < m → Q d → lo ≤ d ∧ d ≤ hi
 | 0, _ => .inl ⟨fun d hd => by omega, by simp [spF]⟩
 | m + 1, hm => by
  have e : spF base Q (m + 1) = if Q m then ⟨min (spF base Q m).lo m, max (spF base Q m).hi m⟩ else spF base Q m := by
   unfold spF
   rw [List.range_succ, List.foldl_append]
   rfl
  rw [e]
  rcases spF_spec base Q m (by omega) with ⟨h1, h2⟩ | ⟨lo, hi, h1, h2, h3, h4, h5, h6⟩
  ·by_cases hq : Q m
   ·refine .inr ⟨m, m, by omega, by omega, hq, hq, ?_, ?_⟩
    ·rw [if_pos hq, h2, Sp.mk.injEq]
     dsimp only
     omega
    ·intro d hd hqd
     rcases Nat.lt_or_ge d m with h | h
     ·exact absurd hqd (h1 d h)
     ·omega
   ·refine .inl ⟨fun d hd hqd => ?_, by rw [if_neg hq, h2]⟩
    rcases Nat.lt_or_ge d m with h | h
    ·exact h1 d h hqd
    ·have : d = m := by omega
     subst this; exact hq hqd
  ·by_cases hq : Q m
   ·refine .inr ⟨lo, m, by omega, by omega, h3, hq, ?_, ?_⟩
    ·rw [if_pos hq, h5, Sp.mk.injEq]
     dsimp only
     omega
    ·intro d hd hqd
     rcases Nat.lt_or_ge d m with h | h
     ·have := h6 d h hqd; omega
     ·omega
   ·refine .inr ⟨lo, hi, by omega, by omega, h3, h4, by rw [if_neg hq, h5], fun d hd hqd => ?_⟩
    rcases Nat.lt_or_ge d m with h | h
    ·exact h6 d h hqd
    ·have : d = m := by omega
     subst this; exact absurd hqd hq
theorem manyR_pos {b : Bk} {L : List (List Nat)} {may : Nat → Nat → Nat → Bool} {carry : Nat → Nat → Bool} {c p d : Nat} (hc : c ≤ b.cords.length) (hp : p < b.places.toNat) :
  0 < manyR b L may carry c p d ↔ ∃ l ∈ L, allOK b may carry l = true ∧ dgN b l c p = d := by
 unfold manyR
 have : 0 < ((sumF L fun l => if allOK b (onlyF may c p d) carry l then 1 else 0 : Nat) : Int) ↔ 0 < sumF L fun l => if allOK b (onlyF may c p d) carry l then 1 else 0 := by omega
 rw [this, sumF_pos]
 constructor
 ·rintro ⟨l, hl, h⟩
  refine ⟨l, hl, ?_⟩
  split at h
  ·next h2 => rwa [allOK_only hc hp, Bool.and_eq_true, decide_eq_true_eq] at h2
  ·omega
 ·rintro ⟨l, hl, h1, h2⟩
  refine ⟨l, hl, ?_⟩
  rw [allOK_only hc hp, h1, h2]
  simp
theorem spanR_spec {b : Bk} (hv : Val b) {L : List (List Nat)} {may : Nat → Nat → Nat → Bool} {carry : Nat → Nat → Bool} {c p : Nat} (hc : c ≤ b.cords.length) (hp : p < b.places.toNat)
  (hne : ∃ l ∈ L, allOK b may carry l = true) :
  ∃ lo hi : Nat, lo < b.base.toNat ∧ hi < b.base.toNat ∧ spanR b L may carry c p b.base.toNat = ⟨lo, hi⟩ ∧ (∃ l ∈ L, allOK b may carry l = true ∧ dgN b l c p = lo) ∧ (∃ l ∈ L, allOK b may carry l = true ∧ dgN b l c p = hi) ∧
   ∀ l ∈ L, allOK b may carry l = true → lo ≤ dgN b l c p ∧ dgN b l c p ≤ hi := by
 have hB : 0 < b.base.toNat := by have := hv.hb; omega
 have e : spanR b L may carry c p b.base.toNat = spF b.base (fun d => 0 < manyR b L may carry c p d) b.base.toNat := rfl
 rcases spF_spec b.base (fun d => 0 < manyR b L may carry c p d) b.base.toNat (by omega) with ⟨h1, _⟩ | ⟨lo, hi, h1, h2, h3, h4, h5, h6⟩
 ·obtain ⟨l, hl, h⟩ := hne
  exact absurd ((manyR_pos hc hp).2 ⟨l, hl, h, rfl⟩) (h1 _ (Nat.mod_lt _ hB))
 ·refine ⟨lo, hi, h1, h2, by rw [e, h5], (manyR_pos hc hp).1 h3, (manyR_pos hc hp).1 h4, fun l hl h => ?_⟩
  exact h6 _ (Nat.mod_lt _ hB) ((manyR_pos hc hp).2 ⟨l, hl, h, rfl⟩)
theorem spanL_spec (l : List Int) (h : 0 < l.length) : ∀ m, 0 < m → m ≤ l.length → (∃ x ∈ l.take m, (spanL l m).lo = x) ∧ (∃ x ∈ l.take m, (spanL l m).hi = x) ∧ ∀ x ∈ l.take m, (spanL l m).lo ≤ x ∧ x ≤ (spanL l m).hi
 | 0, h0, _ => by omega
 | m + 1, _, hm => by
  have e : spanL l (m + 1) = ⟨min (spanL l m).lo (l[m]?.getD default), max (spanL l m).hi (l[m]?.getD default)⟩ := by
   unfold spanL
   rw [take_snoc (by omega), List.foldl_append]
   rfl
  rw [e, take_snoc (show m < l.length by omega)]
  generalize hx : l[m]?.getD default = x
  rcases Nat.eq_zero_or_pos m with h0 | h0
  ·subst h0
   have e0 : spanL l 0 = ⟨x, x⟩ := by
    unfold spanL
    rw [List.take_zero, List.foldl_nil, hx]
   rw [e0]
   refine ⟨⟨x, by simp, by dsimp only; omega⟩, ⟨x, by simp, by dsimp only; omega⟩, fun y hy => ?_⟩
   simp only [List.take_zero, List.nil_append, List.mem_singleton] at hy
   subst hy
   dsimp only
   omega
  ·obtain ⟨⟨u, hu, h1⟩, ⟨v, hv, h2⟩, h3⟩ := spanL_spec l h m h0 (by omega)
   dsimp only
   refine ⟨?_, ?_, fun y hy => ?_⟩
   ·rcases Int.lt_or_le x (spanL l m).lo with h | h
    ·exact ⟨x, by simp, by omega⟩
    ·exact ⟨u, by simp [hu], by omega⟩
   ·rcases Int.lt_or_le (spanL l m).hi x with h | h
    ·exact ⟨x, by simp, by omega⟩
    ·exact ⟨v, by simp [hv], by omega⟩
   ·rcases List.mem_append.1 hy with hy | hy
    ·have := h3 y hy
     omega
    ·simp only [List.mem_singleton] at hy
     subst hy
     omega
theorem spanL_uniq {l : List Int} {lo hi : Int} (h1 : lo ∈ l) (h2 : hi ∈ l) (h3 : ∀ x ∈ l, lo ≤ x ∧ x ≤ hi) : spanL l l.length = ⟨lo, hi⟩ := by
 have h0 : 0 < l.length := List.length_pos_of_mem h1
 obtain ⟨⟨u, hu, e1⟩, ⟨v, hv, e2⟩, e3⟩ := spanL_spec l h0 l.length h0 (Nat.le_refl _)
 rw [List.take_length] at hu hv e3
 have a1 := h3 u hu
 have a2 := h3 v hv
 have a3 := e3 lo h1
 have a4 := e3 hi h2
 generalize spanL l l.length = s at *
 obtain ⟨x, y⟩ := s
 rw [Sp.mk.injEq]
 dsimp only at *
 omega
end Go.Proofs.YtggnmemkhookdaaGreatDoor.Kn

set_option linter.unusedSimpArgs false
set_option linter.unusedVariables false
set_option linter.unnecessarySimpa false
namespace Go.Proofs.YtggnmemkhookdaaGreatDoor.Kn
open Go Go.V
theorem numL_two {base : Int} {n e : Nat} (hb : 2 ≤ base ∧ base ≤ 10) (hn : n ≤ 100000) (he : e ≤ 100) : numL base [(n : Int), (e : Int)] = ((n * base.toNat + e : Nat) : Int) := by
 have hB : ((base.toNat : Nat) : Int) = base := by omega
 have h0 : w64 0 = 0 := by decide
 have h1 : n * base.toNat ≤ 100000 * 10 := Nat.mul_le_mul hn (by omega)
 have e1 : (n : Int) * base = ((n * base.toNat : Nat) : Int) := by rw [Int.natCast_mul, hB]
 unfold numL
 simp only [List.foldl_cons, List.foldl_nil, Int.zero_mul, h0, Int.zero_add]
 rw [w64_id (n := (n : Int)) (by omega), e1, w64_id (n := ((n * base.toNat : Nat) : Int)) (by omega), w64_id (by omega)]
 omega
theorem div_step {x N B : Nat} (hN : 0 < N) : x / N = x / (N * B) * B + x / N % B := by
 rw [← Nat.div_div_eq_div_mul, Nat.mul_comm]
 exact (Nat.div_add_mod (x / N) B).symm
theorem endR_lo {b : Bk} (hv : Val b) {L : List (List Nat)} {carry : Nat → Nat → Bool} {cord : Nat} (hc : cord ≤ b.cords.length) (hsm : ∀ l ∈ L, l[cord]?.getD default < allN b) :
  ∀ (k p : Nat) (may : Nat → Nat → Nat → Bool) (n : Nat), p + k = b.places.toNat → (∃ l ∈ L, allOK b may carry l = true) → (∀ l ∈ L, allOK b may carry l = true → l[cord]?.getD default / b.base.toNat ^ k = n) →
   ∃ r : Nat, endR b L carry cord (fun s => s.lo) p k may n = r ∧ (∃ l ∈ L, allOK b may carry l = true ∧ l[cord]?.getD default = r) ∧ ∀ l ∈ L, allOK b may carry l = true → r ≤ l[cord]?.getD default
 | 0, p, may, n, hpk, ⟨l, hl, h⟩, hn => by
  have h1 := hn l hl h
  rw [Nat.pow_zero, Nat.div_one] at h1
  refine ⟨n, rfl, ⟨l, hl, h, h1⟩, fun k hk h2 => ?_⟩
  have := hn k hk h2
  rw [Nat.pow_zero, Nat.div_one] at this
  omega
 | k + 1, p, may, n, hpk, hne, hn => by
  have hB : 0 < b.base.toNat := by have := hv.hb; omega
  have hall := allN_le hv
  obtain ⟨lo, hi, s1, s2, s3, ⟨l0, hl0, hl1, hl2⟩, _, s5⟩ := spanR_spec hv (L := L) (may := may) (carry := carry) hc (show p < b.places.toNat by omega) hne
  have hN : 0 < b.base.toNat ^ k := Nat.pow_pos hB
  have hdg : ∀ l : List Nat, dgN b l cord p = l[cord]?.getD default / b.base.toNat ^ k % b.base.toNat := by
   intro l
   unfold dgN
   rw [show b.places.toNat - 1 - p = k by omega]
  have hdv : ∀ l ∈ L, allOK b may carry l = true → l[cord]?.getD default / b.base.toNat ^ k = n * b.base.toNat + dgN b l cord p := by
   intro l hl h
   rw [hdg, ← hn l hl h, Nat.pow_succ]
   exact div_step hN
  have hnle : n ≤ 10000 := by
   have := hn l0 hl0 hl1
   have h2 := hsm l0 hl0
   have := Nat.div_le_self (l0[cord]?.getD default) (b.base.toNat ^ (k + 1))
   omega
  have hnum := numL_two hv.hb (n := n) (e := lo) (by omega) (by have := hv.hb; omega)
  rw [endR, s3]
  dsimp only
  rw [Int.toNat_natCast, hnum]
  obtain ⟨r, h1, ⟨l, hl, h2, h3⟩, h4⟩ := endR_lo hv (carry := carry) hc hsm k (p + 1) (onlyF may cord p lo) (n * b.base.toNat + lo) (by omega)
   ⟨l0, hl0, by rw [allOK_only hc (by omega), hl1, hl2]; simp⟩ (fun l hl h => by
    rw [allOK_only hc (by omega), Bool.and_eq_true, decide_eq_true_eq] at h
    rw [hdv l hl h.1, h.2])
  refine ⟨r, h1, ⟨l, hl, ?_, h3⟩, fun x hx hx2 => ?_⟩
  ·rw [allOK_only hc (by omega), Bool.and_eq_true] at h2
   exact h2.1
  ·rcases Nat.lt_or_ge lo (dgN b x cord p) with h | h
   ·rw [allOK_only hc (by omega), Bool.and_eq_true, decide_eq_true_eq] at h2
    have d1 := hdv l hl h2.1
    have d2 := hdv x hx hx2
    rw [h2.2] at d1
    have : l[cord]?.getD default / b.base.toNat ^ k < x[cord]?.getD default / b.base.toNat ^ k := by omega
    have := Nat.lt_of_div_lt_div this
    omega
   ·have h5 := (s5 x hx hx2).1
    refine h4 x hx ?_
    rw [allOK_only hc (by omega), hx2, Bool.true_and, decide_eq_true_eq]
    omega
theorem endR_hi {b : Bk} (hv : Val b) {L : List (List Nat)} {carry : Nat → Nat → Bool} {cord : Nat} (hc : cord ≤ b.cords.length) (hsm : ∀ l ∈ L, l[cord]?.getD default < allN b) :
  ∀ (k p : Nat) (may : Nat → Nat → Nat → Bool) (n : Nat), p + k = b.places.toNat → (∃ l ∈ L, allOK b may carry l = true) → (∀ l ∈ L, allOK b may carry l = true → l[cord]?.getD default / b.base.toNat ^ k = n) →
   ∃ r : Nat, endR b L carry cord (fun s => s.hi) p k may n = r ∧ (∃ l ∈ L, allOK b may carry l = true ∧ l[cord]?.getD default = r) ∧ ∀ l ∈ L, allOK b may carry l = true → l[cord]?.getD default ≤ r
 | 0, p, may, n, hpk, ⟨l, hl, h⟩, hn => by
  have h1 := hn l hl h
  rw [Nat.pow_zero, Nat.div_one] at h1
  refine ⟨n, rfl, ⟨l, hl, h, h1⟩, fun k hk h2 => ?_⟩
  have := hn k hk h2
  rw [Nat.pow_zero, Nat.div_one] at this
  omega
 | k + 1, p, may, n, hpk, hne, hn => by
  have hB : 0 < b.base.toNat := by have := hv.hb; omega
  have hall := allN_le hv
  obtain ⟨lo, hi, s1, s2, s3, _, ⟨l0, hl0, hl1, hl2⟩, s5⟩ := spanR_spec hv (L := L) (may := may) (carry := carry) hc (show p < b.places.toNat by omega) hne
  have hN : 0 < b.base.toNat ^ k := Nat.pow_pos hB
  have hdg : ∀ l : List Nat, dgN b l cord p = l[cord]?.getD default / b.base.toNat ^ k % b.base.toNat := by
   intro l
   unfold dgN
   rw [show b.places.toNat - 1 - p = k by omega]
  have hdv : ∀ l ∈ L, allOK b may carry l = true → l[cord]?.getD default / b.base.toNat ^ k = n * b.base.toNat + dgN b l cord p := by
   intro l hl h
   rw [hdg, ← hn l hl h, Nat.pow_succ]
   exact div_step hN
  have hnle : n ≤ 10000 := by
   have := hn l0 hl0 hl1
   have h2 := hsm l0 hl0
   have := Nat.div_le_self (l0[cord]?.getD default) (b.base.toNat ^ (k + 1))
   omega
  have hnum := numL_two hv.hb (n := n) (e := hi) (by omega) (by have := hv.hb; omega)
  rw [endR, s3]
  dsimp only
  rw [Int.toNat_natCast, hnum]
  obtain ⟨r, h1, ⟨l, hl, h2, h3⟩, h4⟩ := endR_hi hv (carry := carry) hc hsm k (p + 1) (onlyF may cord p hi) (n * b.base.toNat + hi) (by omega)
   ⟨l0, hl0, by rw [allOK_only hc (by omega), hl1, hl2]; simp⟩ (fun l hl h => by
    rw [allOK_only hc (by omega), Bool.and_eq_true, decide_eq_true_eq] at h
    rw [hdv l hl h.1, h.2])
  refine ⟨r, h1, ⟨l, hl, ?_, h3⟩, fun x hx hx2 => ?_⟩
  ·rw [allOK_only hc (by omega), Bool.and_eq_true] at h2
   exact h2.1
  ·rcases Nat.lt_or_ge (dgN b x cord p) hi with h | h
   ·rw [allOK_only hc (by omega), Bool.and_eq_true, decide_eq_true_eq] at h2
    have d1 := hdv l hl h2.1
    have d2 := hdv x hx hx2
    rw [h2.2] at d1
    have : x[cord]?.getD default / b.base.toNat ^ k < l[cord]?.getD default / b.base.toNat ^ k := by omega
    have := Nat.lt_of_div_lt_div this
    omega
   ·have h5 := (s5 x hx hx2).2
    refine h4 x hx ?_
    rw [allOK_only hc (by omega), hx2, Bool.true_and, decide_eq_true_eq]
    omega
theorem sure_eq {b : Bk} (hv : Val b) {c : Nat} (hc : c ≤ b.cords.length) (hne : 0 < (allNs b).length) : sureD b c = spanL (colS b c (allNs b).length) (allNs b).length := by
 have hsm : ∀ l ∈ allNs b, l[c]?.getD default < allN b := by
  intro l hl
  obtain ⟨h1, h2⟩ := allNs_mem hl
  exact h2 _ (mem_getD (by omega))
 have h0 : ∀ l ∈ allNs b, allOK b yes3 yes2 l = true → l[c]?.getD default / b.base.toNat ^ b.places.toNat = 0 := fun l hl _ => Nat.div_eq_of_lt (hsm l hl)
 obtain ⟨x, hx1, ⟨l, hl, _, hl2⟩, hx3⟩ := endR_lo hv (carry := yes2) hc hsm b.places.toNat 0 yes3 0 (by omega) ⟨(allNs b)[0], List.getElem_mem _, allOK_yes b _⟩ h0
 obtain ⟨y, hy1, ⟨k, hk, _, hk2⟩, hy3⟩ := endR_hi hv (carry := yes2) hc hsm b.places.toNat 0 yes3 0 (by omega) ⟨(allNs b)[0], List.getElem_mem _, allOK_yes b _⟩ h0
 have hd : colS b c (allNs b).length = (allNs b).map fun l => ((l[c]?.getD default : Nat) : Int) := by
  unfold colS
  rw [List.take_length]
 have := spanL_uniq (l := (allNs b).map fun l => ((l[c]?.getD default : Nat) : Int)) (lo := x) (hi := y) (List.mem_map.2 ⟨l, hl, by rw [hl2]⟩) (List.mem_map.2 ⟨k, hk, by rw [hk2]⟩) (fun z hz => by
  obtain ⟨l, hl, rfl⟩ := List.mem_map.1 hz
  have := hx3 l hl (allOK_yes b _)
  have := hy3 l hl (allOK_yes b _)
  omega)
 rw [List.length_map] at this
 rw [hd, this]
 unfold sureD
 rw [endF_R hv, endF_R hv]
 have hx1' : endR b (allNs b) yes2 c (fun s => s.lo) 0 b.places.toNat yes3 0 = x := hx1
 have hy1' : endR b (allNs b) yes2 c (fun s => s.hi) 0 b.places.toNat yes3 0 = y := hy1
 rw [hx1', hy1']
end Go.Proofs.YtggnmemkhookdaaGreatDoor.Kn

set_option linter.unusedSimpArgs false
set_option linter.unusedVariables false
set_option linter.unnecessarySimpa false
namespace Go.Proofs.YtggnmemkhookdaaGreatDoor.Kn
open Go Go.V
end Go.Proofs.YtggnmemkhookdaaGreatDoor.Kn

set_option linter.unusedSimpArgs false
set_option linter.unusedVariables false
set_option linter.unnecessarySimpa false
namespace Go.Proofs.YtggnmemkhookdaaGreatDoor.Kn
open Go Go.V
end Go.Proofs.YtggnmemkhookdaaGreatDoor.Kn

set_option linter.unusedSimpArgs false
set_option linter.unusedVariables false
set_option linter.unnecessarySimpa false
namespace Go.Proofs.YtggnmemkhookdaaGreatDoor.Kn
open Go Go.V
def ansS (b : Bk) (is : Bool) (v : Sp) : Sp × Int := if checkB b then if is then if (allNs b).length = 0 then (⟨0, 0⟩, 3) else (v, 0) else (⟨0, 0⟩, 1) else (⟨0, 0⟩, 110)
theorem ansR_S {b : Bk} (is : Bool) (u v : Sp) (h : checkB b = true → is = true → 0 < (allNs b).length → u = v) : ansR b is (SP ⟨0, 0⟩) (SP u) = .tup [SP (ansS b is v).1, .int (ansS b is v).2] := by
 unfold ansR ansS
 cases hc : checkB b with
 | false => rfl
 | true =>
  cases is with
  | false => rfl
  | true =>
   rw [if_pos rfl, if_pos rfl, if_pos rfl, if_pos rfl, many_len (val_of_check hc)]
   by_cases h0 : (allNs b).length = 0
   ·rw [if_pos (by omega), if_pos h0]
   ·rw [if_neg (by omega), if_neg h0, h hc rfl (by omega)]
def sureR (b : Bk) (c : Int) : Sp × Int := ansS b (within c 0 b.cords.length) (spanL (colS b c.toNat (allNs b).length) (allNs b).length)
theorem c14r (b : Bk) (hs : Small b) (c : Int) : Ctr Tryz.prog 14 [KB b, .int c] (.tup [SP (sureR b c).1, .int (sureR b c).2]) := by
 have := c14 b hs c
 rwa [ansR_S _ _ (spanL (colS b c.toNat (allNs b).length) (allNs b).length) (fun hc hi hne => sure_eq (val_of_check hc) (by simp [within] at hi; omega) hne)] at this
end Go.Proofs.YtggnmemkhookdaaGreatDoor.Kn

set_option linter.unusedSimpArgs false
set_option linter.unusedVariables false
set_option linter.unnecessarySimpa false
namespace Go.Proofs.YtggnmemkhookdaaGreatDoor.Kn
open Go Go.V
theorem sums_fit (b : Bk) : ∀ (k : Nat) (first l : List Nat), l ∈ sumsN b false k first →
  (∀ c, c < first.length → l[c]? = first[c]?) ∧ (∀ c, c < k → isN b (first.length + c) false (l[first.length + c]?.getD default) = true) ∧ fitsL b.top (tieN b.base.toNat b.places.toNat (l[first.length + k]?.getD default)) = true
 | 0, first, l, hl => by
  unfold sumsN at hl
  split at hl
  ·next h =>
   simp only [List.mem_singleton] at hl
   subst hl
   simp only [Bool.false_or, Bool.and_eq_true] at h
   refine ⟨fun c hc => List.getElem?_append_left hc, fun c hc => by omega, ?_⟩
   simpa using h.2
  ·simp at hl
 | k + 1, first, l, hl => by
  unfold sumsN at hl
  obtain ⟨n, hn, hl⟩ := List.mem_flatMap.1 hl
  obtain ⟨h1, h2, h3⟩ := sums_fit b k (first ++ [n]) l hl
  have hn2 := (List.mem_filter.1 hn).2
  simp only [List.length_append, List.length_singleton] at h1 h2 h3
  refine ⟨fun c hc => ?_, fun c hc => ?_, ?_⟩
  ·rw [h1 c (by omega), List.getElem?_append_left hc]
  ·rcases Nat.eq_zero_or_pos c with h | h
   ·subst h
    rw [Nat.add_zero, h1 first.length (by omega), List.getElem?_append_right (Nat.le_refl _)]
    simpa using hn2
   ·have := h2 (c - 1) (by omega)
    rwa [show first.length + 1 + (c - 1) = first.length + c by omega] at this
  ·rwa [show first.length + 1 + k = first.length + (k + 1) by omega] at h3
theorem all_fits {b : Bk} {l : List Nat} (hl : l ∈ allNs b) {c : Nat} (hc : c ≤ b.cords.length) : fitsL (cordAt b c) (tieN b.base.toNat b.places.toNat (l[c]?.getD default)) = true := by
 obtain ⟨_, h2, h3⟩ := sums_fit b b.cords.length [] l hl
 simp only [List.length_nil, Nat.zero_add] at h2 h3
 rcases Nat.lt_or_ge c b.cords.length with h | h
 ·simpa [isN] using h2 c h
 ·have : c = b.cords.length := by omega
  subst this
  unfold cordAt
  rw [if_pos rfl]
  exact h3
theorem dig_num {B : Nat} (hB : 2 ≤ B ∧ B ≤ 10) : ∀ (P : Nat) (x : List Int), x.length = P → P ≤ 4 → (∀ d ∈ x, 0 ≤ d ∧ d < B) → ∃ n : Nat, numL (B : Int) x = n ∧ n < B ^ P ∧ tieN B P n = x
 | 0, x, hx, _, _ => by
  have : x = [] := List.eq_nil_of_length_eq_zero hx
  subst this
  exact ⟨0, rfl, by simp, rfl⟩
 | P + 1, x, hx, hP, hd => by
  rcases List.eq_nil_or_concat x with h | ⟨y, d, h⟩
  ·subst h; simp at hx
  ·rw [List.concat_eq_append] at h
   subst h
   simp only [List.length_append, List.length_singleton, Nat.add_right_cancel_iff] at hx
   obtain ⟨m, h1, h2, h3⟩ := dig_num hB P y hx (by omega) fun e he => hd e (by simp [he])
   obtain ⟨d1, d2⟩ := hd d (by simp)
   obtain ⟨e, rfl⟩ : ∃ e : Nat, d = e := ⟨d.toNat, by omega⟩
   have hpw : B ^ P ≤ 10000 := pow_le hB.2 (by omega)
   have hmB : m * B ≤ 10000 * 10 := Nat.mul_le_mul (by omega) hB.2
   have e1 : (m : Int) * (B : Int) = ((m * B : Nat) : Int) := (Int.natCast_mul _ _).symm
   have hlt : m * B + e < B ^ (P + 1) := by
    have : (m + 1) * B ≤ B ^ P * B := Nat.mul_le_mul_right B (by omega)
    rw [Nat.pow_succ]
    rw [Nat.add_mul, Nat.one_mul] at this
    omega
   have hB0 : 0 < B := by omega
   have heB : e < B := by omega
   refine ⟨m * B + e, ?_, hlt, ?_⟩
   ·unfold numL at h1 ⊢
    rw [List.foldl_append, h1, List.foldl_cons, List.foldl_nil, e1, w64_id (n := ((m * B : Nat) : Int)) (by omega), w64_id (by omega)]
    omega
   ·rw [tieN]
    have q1 : (m * B + e) / B = m := by rw [Nat.mul_comm, Nat.mul_add_div hB0, Nat.div_eq_of_lt heB, Nat.add_zero]
    have q2 : (m * B + e) % B = e := by rw [Nat.mul_comm, Nat.mul_add_mod, Nat.mod_eq_of_lt heB]
    rw [q1, q2, h3]
theorem spanL_map {L : List (List Nat)} (f : List Nat → Int) (h : 0 < L.length) : (∃ l ∈ L, (spanL (L.map f) L.length).lo = f l) ∧ (∃ l ∈ L, (spanL (L.map f) L.length).hi = f l) ∧ ∀ l ∈ L, (spanL (L.map f) L.length).lo ≤ f l ∧ f l ≤ (spanL (L.map f) L.length).hi := by
 obtain ⟨⟨x, hx, h1⟩, ⟨y, hy, h2⟩, h3⟩ := spanL_spec (L.map f) (by simpa using h) L.length h (by simp)
 have e : (L.map f).take L.length = L.map f := List.take_of_length_le (by simp)
 rw [e] at hx hy h3
 obtain ⟨l, hl, rfl⟩ := List.mem_map.1 hx
 obtain ⟨k, hk, rfl⟩ := List.mem_map.1 hy
 exact ⟨⟨l, hl, h1⟩, ⟨k, hk, h2⟩, fun m hm => h3 _ (List.mem_map.2 ⟨m, hm, rfl⟩)⟩
def le2 (base : Int) : List Int → List Int → Prop
 | [], [] => True
 | a :: x, b :: y => (0 ≤ a ∧ a ≤ b ∧ b < base) ∧ le2 base x y
 | _, _ => False
theorem numL_mono {base : Int} (hb : 2 ≤ base ∧ base ≤ 10) : ∀ (x y : List Int) (k : Nat) (n m : Int), le2 base x y → 0 ≤ n → n ≤ m → m < ((10 ^ k : Nat) : Int) → k + x.length ≤ 4 →
  x.foldl (fun n d => w64 (w64 (n * base) + d)) n ≤ y.foldl (fun n d => w64 (w64 (n * base) + d)) m
 | [], [], _, _, _, _, _, h, _, _ => h
 | a :: x, c :: y, k, n, m, ⟨hac, hxy⟩, hn, hnm, hm, hk => by
  simp only [List.length_cons] at hk
  have h10 : 10 ^ k ≤ 1000 := by
   have : k = 0 ∨ k = 1 ∨ k = 2 ∨ k = 3 := by omega
   rcases this with rfl | rfl | rfl | rfl <;> decide
  have n1 : 0 ≤ n * base := Int.mul_nonneg hn (by omega)
  have n2 : n * base ≤ m * base := Int.mul_le_mul_of_nonneg_right hnm (by omega)
  have n3 : m * base ≤ m * 10 := Int.mul_le_mul_of_nonneg_left hb.2 (by omega)
  have e1 : w64 (n * base) = n * base := w64_id (by omega)
  have e2 : w64 (n * base + a) = n * base + a := w64_id (by omega)
  have e3 : w64 (m * base) = m * base := w64_id (by omega)
  have e4 : w64 (m * base + c) = m * base + c := w64_id (by omega)
  simp only [List.foldl_cons, e1, e2, e3, e4]
  exact numL_mono hb x y (k + 1) _ _ hxy (by omega) (by omega) (by rw [Nat.pow_succ]; omega) (by omega)
theorem fits_le2 {base : Int} : ∀ (l : List Sp) (ds : List Int), ds.length = l.length → (∀ s ∈ l, 0 ≤ s.lo ∧ s.lo ≤ s.hi ∧ s.hi < base) → (∀ i, i < l.length → within (ds[i]?.getD default) (l[i]?.getD default).lo (l[i]?.getD default).hi = true) →
  le2 base (l.map fun s => s.lo) ds ∧ le2 base ds (l.map fun s => s.hi)
 | [], [], _, _, _ => ⟨trivial, trivial⟩
 | s :: l, d :: ds, h, hs, hw => by
  have h0 := hw 0 (by simp)
  simp only [List.getElem?_cons_zero, Option.getD_some] at h0
  have h0' : s.lo ≤ d ∧ d ≤ s.hi := by simpa [within] using h0
  have hs0 := hs s (by simp)
  obtain ⟨a1, a2⟩ := fits_le2 l ds (by simpa using h) (fun t ht => hs t (by simp [ht])) fun i hi => by
   have := hw (i + 1) (by simpa using hi)
   simpa using this
  have b1 : d < base := by omega
  have b2 : 0 ≤ d := by omega
  exact ⟨⟨⟨hs0.1, h0'.1, b1⟩, a1⟩, ⟨⟨b2, h0'.2, hs0.2.2⟩, a2⟩⟩
 | [], _ :: _, h, _, _ => by simp at h
 | _ :: _, [], h, _, _ => by simp at h
theorem ends_in {b : Bk} (hv : Val b) {l : List Nat} (hl : l ∈ allNs b) {c : Nat} (hc : c ≤ b.cords.length) :
  (endsL b.base (cordAt b c)).lo ≤ ((l[c]?.getD default : Nat) : Int) ∧ ((l[c]?.getD default : Nat) : Int) ≤ (endsL b.base (cordAt b c)).hi := by
 have hbb := hv.hb
 have hpp := hv.hp
 obtain ⟨h1, h2⟩ := cordAt_val hv hc
 have hf := all_fits hl hc
 unfold fitsL at hf
 rw [List.all_eq_true] at hf
 obtain ⟨hm1, hm2⟩ := allNs_mem hl
 have hx : l[c]?.getD default < allN b := hm2 _ (mem_getD (by omega))
 have hBb : ((b.base.toNat : Nat) : Int) = b.base := by omega
 have hnum := numL_tie b.base.toNat (by omega) b.places.toNat (l[c]?.getD default) (by omega) hx
 rw [hBb] at hnum
 obtain ⟨a1, a2⟩ := fits_le2 (cordAt b c) (tieN b.base.toNat b.places.toNat (l[c]?.getD default)) (by rw [tieN_len]; omega) h2 fun i hi => hf i (by simpa using hi)
 have m1 := numL_mono hv.hb _ _ 0 0 0 a1 (by omega) (by omega) (by simp) (by rw [List.length_map]; omega)
 have m2 := numL_mono hv.hb _ _ 0 0 0 a2 (by omega) (by omega) (by simp) (by rw [tieN_len]; omega)
 rw [ends_num]
 unfold numL at hnum ⊢
 rw [hnum] at m1 m2
 exact ⟨m1, m2⟩
end Go.Proofs.YtggnmemkhookdaaGreatDoor.Kn

set_option linter.unusedSimpArgs false
set_option linter.unusedVariables false
set_option linter.unnecessarySimpa false
namespace Go.Proofs.YtggnmemkhookdaaGreatDoor.Kn
open Go Go.V
end Go.Proofs.YtggnmemkhookdaaGreatDoor.Kn

set_option linter.unusedSimpArgs false
set_option linter.unusedVariables false
set_option linter.unnecessarySimpa false
namespace Go.Proofs.YtggnmemkhookdaaGreatDoor.Fi
open Go Go.V Kn
theorem ag33 : aggOf Tryz.prog 33 = some true := by kernel_rfl
theorem sz33 : szOf Tryz.prog 33 = some 6 := by kernel_rfl
attribute [go_sem] ag33 sz33
end Go.Proofs.YtggnmemkhookdaaGreatDoor.Fi

set_option linter.unusedSimpArgs false
set_option linter.unusedVariables false
set_option linter.unnecessarySimpa false
namespace Go.Proofs.YtggnmemkhookdaaGreatDoor.Fi
open Go Go.V Kn
structure En where
 day : Int
 who : Int
 cord : List Sp
 deriving Inhabited, DecidableEq
structure FB where
 base : Int
 places : Int
 persons : Int
 late : Int
 ones : List En
 others : List En
 deriving Inhabited, DecidableEq
structure Pa where
 one : Int
 other : Int
 deriving Inhabited, DecidableEq
abbrev EN (e : En) : AV := .agg [.int e.day, .int e.who, SS e.cord]
abbrev ES (l : List En) : AV := .sl 3 (l.map EN) .sh
abbrev FK (b : FB) : AV := .agg [.int b.base, .int b.places, .int b.persons, .int b.late, ES b.ones, ES b.others]
abbrev PA (p : Pa) : AV := .agg [.int p.one, .int p.other]
abbrev PS (l : List Pa) : AV := .sl 2 (l.map PA) .sh
theorem c32 (n lo hi : Int) : Ctr Tryz.prog 32 [.int n, .int lo, .int hi] (.bool (within n lo hi)) := by
 refine ctr_of_wp hmix Tryz.func32 m32 rfl ?_
 unfold v32
 simp -failIfUnchanged (disch := first|omega|(simp<;>omega)|fail) only [go_sem,simprocAttr]
 refine WGd_bool (fun h => ?_) (fun h => ?_)
 ·simp -failIfUnchanged (disch := first|omega|(simp<;>omega)|fail) only [go_sem,simprocAttr, h]
  simp only [decide_eq_true_eq] at h
  simp [within, h]
 ·simp -failIfUnchanged (disch := first|omega|(simp<;>omega)|fail) only [go_sem,simprocAttr, h]
  simp only [Bool.not_true, decide_eq_false_iff_not] at h
  simp [within, h]
def zsN (b : FB) : List Sp := List.replicate (min (max 0 b.places) 4).toNat ⟨0, 0⟩
abbrev ktd (b : FB) (cs : List (List Sp)) : Bk := ⟨b.base, b.places, cs, zsN b⟩
theorem chunks_z (k : Nat) : ∀ pre : List AV, chunks true 2 (pre ++ zeros [AV.int 0, AV.int 0] k) pre.length k = (List.replicate k (⟨0, 0⟩ : Sp)).map SP := by
 induction k with
 | zero => intro pre; rfl
 | succ k ih =>
  intro pre
  rw [chunks, List.replicate_succ, List.map_cons, zeros]
  have h := ih (pre ++ [AV.int 0, AV.int 0])
  rw [List.append_assoc] at h
  have e : (pre ++ [AV.int 0, AV.int 0]).length = pre.length + 2 := by simp
  rw [e] at h
  rw [h]
  congr 1
  simp [chunk]
theorem c51 (b : FB) (cs : List (List Sp)) : Ctr Tryz.prog 51 [FK b, .sl 1 (cs.map SS) .sh] (KB (ktd b cs)) := by
 refine ctr_of_wp hmix Tryz.func51 m51 rfl ?_
 unfold v51
 simp -failIfUnchanged (disch := first|omega|(simp<;>omega)|fail) only [go_sem,simprocAttr]
 have := chunks_z (min (max 0 b.places) 4).toNat []
 rw [List.nil_append, List.length_nil] at this
 rw [if_pos (by omega), ← Kn.zeros_wcs, this]
 rfl
structure SmE (l : List En) : Prop where
 n : l.length < 4294967296
 c : ∀ e ∈ l, e.cord.length < 4294967296
structure SmF (b : FB) : Prop where
 ones : SmE b.ones
 others : SmE b.others
def cdB (b : FB) (l : List Sp) : Bool := isCordB (ktd b []) l
def bpB (b : FB) : Bool := within b.base 2 10 && within b.places 1 4
def entB (b : FB) (e : En) : Bool := within e.day 0 99 && (within e.who 0 (w64 (b.persons - 1)) && (bpB b && cdB b e.cord))
theorem isCord_z {b : FB} (h : bpB b = true) (cs : List (List Sp)) : isCordB (ktd b cs) (zsN b) = true := by
 simp only [bpB, Bool.and_eq_true, within, decide_eq_true_eq] at h
 unfold isCordB zsN
 simp only [List.length_replicate, Bool.and_eq_true, decide_eq_true_eq, Bool.not_eq_true', List.any_eq_false]
 refine ⟨by omega, fun x hx => ?_⟩
 obtain ⟨_, rfl⟩ := List.mem_replicate.1 hx
 unfold badS within
 simp
 omega
theorem check_k1 (b : FB) (l : List Sp) : checkB (ktd b [l]) = (bpB b && cdB b l) := by
 have e1 : checkB (ktd b [l]) = (within b.base 2 10 && (within b.places 1 4 && (decide ((([l] : List (List Sp)).length : Int) ≤ 4) && (!([l] : List (List Sp)).any (fun l => !cdB b l) && isCordB (ktd b [l]) (zsN b))))) := rfl
 rw [e1]
 cases h : bpB b with
 | true =>
  rw [isCord_z h]
  simp only [bpB, Bool.and_eq_true] at h
  rw [h.1, h.2]
  simp
 | false =>
  have h2 := h
  simp only [bpB, Bool.and_eq_false_iff] at h2
  rcases h2 with h2 | h2 <;> simp [h2]
theorem check_k0 (b : FB) : checkB (ktd b []) = bpB b := by
 have e1 : checkB (ktd b []) = (within b.base 2 10 && (within b.places 1 4 && (decide ((([] : List (List Sp)).length : Int) ≤ 4) && (!([] : List (List Sp)).any (fun l => !cdB b l) && isCordB (ktd b []) (zsN b))))) := rfl
 rw [e1]
 cases h : bpB b with
 | true =>
  rw [isCord_z h]
  simp only [bpB, Bool.and_eq_true] at h
  rw [h.1, h.2]
  simp
 | false =>
  have h2 := h
  simp only [bpB, Bool.and_eq_false_iff] at h2
  rcases h2 with h2 | h2 <;> simp [h2]
theorem zs_len (b : FB) : (zsN b).length ≤ 4 := by unfold zsN; rw [List.length_replicate]; omega
theorem small_k (b : FB) {cs : List (List Sp)} (h1 : cs.length < 4294967296) (h2 : ∀ l ∈ cs, l.length < 4294967296) : Small (ktd b cs) := ⟨h1, by have := zs_len b; show (zsN b).length < _; omega, h2⟩
theorem c54 (b : FB) (e : En) (hl : e.cord.length < 4294967296) : Ctr Tryz.prog 54 [FK b, EN e] (.bool (entB b e)) := by
 refine ctr_of_wp hmix Tryz.func54 m54 rfl ?_
 unfold v54 entB
 simp -failIfUnchanged (disch := first|omega|(simp<;>omega)|fail) only [go_sem,simprocAttr]
 refine wcall (c32 _ _ _) ?_
 cases h1 : within e.day 0 99 with
 | false => simp -failIfUnchanged (disch := first|omega|(simp<;>omega)|fail) only [go_sem,simprocAttr]
 | true =>
  simp -failIfUnchanged (disch := first|omega|(simp<;>omega)|fail) only [go_sem,simprocAttr]
  refine wcall (c32 _ _ _) ?_
  cases h2 : within e.who 0 (w64 (b.persons - 1)) with
  | false => simp -failIfUnchanged (disch := first|omega|(simp<;>omega)|fail) only [go_sem,simprocAttr]
  | true =>
   have k1 := c51 b [e.cord]
   have k2 := c50 (ktd b [e.cord]) (small_k b (by simp) (by simpa using hl))
   rw [check_k1] at k2
   simp -failIfUnchanged (disch := first|omega|(simp<;>omega)|fail) only [go_sem,simprocAttr]
   refine wcall k1 ?_
   simp -failIfUnchanged (disch := first|omega|(simp<;>omega)|fail) only [go_sem,simprocAttr]
   refine wcall k2 ?_
   cases bpB b && cdB b e.cord with
   | true => simp -failIfUnchanged (disch := first|omega|(simp<;>omega)|fail) only [go_sem,simprocAttr, eq_self]
   | false => simp -failIfUnchanged (disch := first|omega|(simp<;>omega)|fail) only [go_sem,simprocAttr]; try simp
theorem c53 (b : FB) (e : En) (hl : e.cord.length < 4294967296) : Ctr Tryz.prog 53 [EN e, .ref 6 [FK b] 0 0] (.bool (!entB b e)) := by
 refine ctr_of_wp hmix Tryz.func53 m53 rfl ?_
 unfold v53
 simp -failIfUnchanged (disch := first|omega|(simp<;>omega)|fail) only [go_sem,simprocAttr]
 refine wcall (c54 b e hl) ?_
 simp -failIfUnchanged (disch := first|omega|(simp<;>omega)|fail) only [go_sem,simprocAttr]
theorem c77 (l : List En) (g : Nat) (caps : List AV) (p : En → Bool) (hp : ∀ x ∈ l, Ctr Tryz.prog g ([EN x] ++ caps) (.bool (p x))) (hl : l.length < 4294967296) :
  Ctr Tryz.prog 77 [ES l, .clo g [] caps] (.int (idxF p l)) := by
 refine ctr_of_wp hmix Tryz.func77 m77 rfl ?_
 unfold v77
 simp -failIfUnchanged (disch := first|omega|(simp<;>omega)|fail) only [go_sem,simprocAttr]
 refine wp_loop' Nat (fun i => ⟨[(0, ES l), (1, .clo g [] caps), (7, .int l.length), (8, .int i)], [], [], none⟩) (fun i => i ≤ l.length ∧ ∀ x ∈ l.take i, p x = false) (fun i => l.length - i) 0 (by simp) (by simp -failIfUnchanged (disch := first|omega|(simp<;>omega)|fail) only [go_sem,simprocAttr]; try rfl) ?_
 rintro i ⟨hi, hpre⟩
 simp -failIfUnchanged (disch := first|omega|(simp<;>omega)|fail) only [go_sem,simprocAttr]
 refine wcond_dec (fun h => ?_) (fun h => ?_)
 ·simp -failIfUnchanged (disch := first|omega|(simp<;>omega)|fail) only [go_sem,simprocAttr]
  have hlt : i < l.length := by omega
  refine wcall (hp _ (mem_getD hlt)) ?_
  simp -failIfUnchanged (disch := first|omega|(simp<;>omega)|fail) only [go_sem,simprocAttr]
  refine wcond_bool (fun hb => ?_) (fun hb => ?_)
  ·simp -failIfUnchanged (disch := first|omega|(simp<;>omega)|fail) only [go_sem,simprocAttr]
   rw [idxF_hit hlt hpre hb]
  ·simp -failIfUnchanged (disch := first|omega|(simp<;>omega)|fail) only [go_sem,simprocAttr]
   refine ⟨i + 1, ⟨by omega, take_succ_all hlt hpre hb⟩, by dsimp only; omega, ?_⟩
   simp -failIfUnchanged (disch := first|omega|(simp<;>omega)|fail) only [go_sem,simprocAttr]
   try simp
 ·simp -failIfUnchanged (disch := first|omega|(simp<;>omega)|fail) only [go_sem,simprocAttr]
  have e : i = l.length := by omega
  rw [idxF_miss]
  rw [e, List.take_length] at hpre
  exact hpre
theorem c52 (l : List En) (g : Nat) (caps : List AV) (p : En → Bool) (hp : ∀ x ∈ l, Ctr Tryz.prog g ([EN x] ++ caps) (.bool (p x))) (hl : l.length < 4294967296) :
  Ctr Tryz.prog 52 [ES l, .clo g [] caps] (.bool (l.any p)) := by
 refine ctr_of_wp hmix Tryz.func52 m52 rfl ?_
 unfold v52
 simp -failIfUnchanged (disch := first|omega|(simp<;>omega)|fail) only [go_sem,simprocAttr]
 refine wcall (c77 l g caps p hp hl) ?_
 simp -failIfUnchanged (disch := first|omega|(simp<;>omega)|fail) only [go_sem,simprocAttr]
 rw [idxF_geq]
theorem c60 (l : List Pa) (g : Nat) (caps : List AV) (p : Pa → Bool) (hp : ∀ x ∈ l, Ctr Tryz.prog g ([PA x] ++ caps) (.bool (p x))) (hl : l.length < 4294967296) :
  Ctr Tryz.prog 60 [PS l, .clo g [] caps] (.int (idxF p l)) := by
 refine ctr_of_wp hmix Tryz.func60 m60 rfl ?_
 unfold v60
 simp -failIfUnchanged (disch := first|omega|(simp<;>omega)|fail) only [go_sem,simprocAttr]
 refine wp_loop' Nat (fun i => ⟨[(0, PS l), (1, .clo g [] caps), (7, .int l.length), (8, .int i)], [], [], none⟩) (fun i => i ≤ l.length ∧ ∀ x ∈ l.take i, p x = false) (fun i => l.length - i) 0 (by simp) (by simp -failIfUnchanged (disch := first|omega|(simp<;>omega)|fail) only [go_sem,simprocAttr]; try rfl) ?_
 rintro i ⟨hi, hpre⟩
 simp -failIfUnchanged (disch := first|omega|(simp<;>omega)|fail) only [go_sem,simprocAttr]
 refine wcond_dec (fun h => ?_) (fun h => ?_)
 ·simp -failIfUnchanged (disch := first|omega|(simp<;>omega)|fail) only [go_sem,simprocAttr]
  have hlt : i < l.length := by omega
  refine wcall (hp _ (mem_getD hlt)) ?_
  simp -failIfUnchanged (disch := first|omega|(simp<;>omega)|fail) only [go_sem,simprocAttr]
  refine wcond_bool (fun hb => ?_) (fun hb => ?_)
  ·simp -failIfUnchanged (disch := first|omega|(simp<;>omega)|fail) only [go_sem,simprocAttr]
   rw [idxF_hit hlt hpre hb]
  ·simp -failIfUnchanged (disch := first|omega|(simp<;>omega)|fail) only [go_sem,simprocAttr]
   refine ⟨i + 1, ⟨by omega, take_succ_all hlt hpre hb⟩, by dsimp only; omega, ?_⟩
   simp -failIfUnchanged (disch := first|omega|(simp<;>omega)|fail) only [go_sem,simprocAttr]
   try simp
 ·simp -failIfUnchanged (disch := first|omega|(simp<;>omega)|fail) only [go_sem,simprocAttr]
  have e : i = l.length := by omega
  rw [idxF_miss]
  rw [e, List.take_length] at hpre
  exact hpre
theorem c58 (l : List Pa) (g : Nat) (caps : List AV) (p : Pa → Bool) (hp : ∀ x ∈ l, Ctr Tryz.prog g ([PA x] ++ caps) (.bool (p x))) (hl : l.length < 4294967296) :
  Ctr Tryz.prog 58 [PS l, .clo g [] caps] (.bool (l.any p)) := by
 refine ctr_of_wp hmix Tryz.func58 m58 rfl ?_
 unfold v58
 simp -failIfUnchanged (disch := first|omega|(simp<;>omega)|fail) only [go_sem,simprocAttr]
 refine wcall (c60 l g caps p hp hl) ?_
 simp -failIfUnchanged (disch := first|omega|(simp<;>omega)|fail) only [go_sem,simprocAttr]
 rw [idxF_geq]
def listB (b : FB) (l : List En) : Bool := decide ((l.length : Int) ≤ 5) && l.all (entB b)
def chkB (b : FB) : Bool := bpB b && (within b.persons 0 4 && (within b.late 0 30 && (listB b b.ones && listB b b.others)))
def errF (b : FB) : Int := if chkB b then 0 else 130
theorem any_not {α : Type} (p : α → Bool) (l : List α) : l.any (fun x => !p x) = !l.all p := by
 induction l with
 | nil => rfl
 | cons x r ih => simp only [List.any_cons, List.all_cons, ih, Bool.not_and]
theorem c28 (b : FB) (hs : SmF b) : Ctr Tryz.prog 28 [FK b] (.int (errF b)) := by
 refine ctr_of_wp hmix Tryz.func28 m28 rfl ?_
 unfold v28
 have k1 := c51 b []
 have k2 := c50 (ktd b []) (small_k b (by simp) (by simp))
 rw [check_k0] at k2
 have h83 : ∀ l : List En, SmE l → Ctr Tryz.prog 52 [ES l, .clo 53 [] [.ref 6 [FK b] 0 0]] (.bool (!l.all (entB b))) := fun l hl => by
  have := c52 l 53 [.ref 6 [FK b] 0 0] (fun x => !entB b x) (fun x hx => c53 b x (hl.c x hx)) hl.n
  rw [any_not] at this
  exact this
 unfold errF chkB
 simp -failIfUnchanged (disch := first|omega|(simp<;>omega)|fail) only [go_sem,simprocAttr]
 refine wcall k1 ?_
 simp -failIfUnchanged (disch := first|omega|(simp<;>omega)|fail) only [go_sem,simprocAttr]
 refine wcall k2 ?_
 cases hb : bpB b with
 | false => simp -failIfUnchanged (disch := first|omega|(simp<;>omega)|fail) only [go_sem,simprocAttr]; try simp
 | true =>
  simp -failIfUnchanged (disch := first|omega|(simp<;>omega)|fail) only [go_sem,simprocAttr, eq_self]
  refine wcall (c32 _ _ _) ?_
  cases hp : within b.persons 0 4 with
  | false => simp -failIfUnchanged (disch := first|omega|(simp<;>omega)|fail) only [go_sem,simprocAttr]; try simp
  | true =>
   simp -failIfUnchanged (disch := first|omega|(simp<;>omega)|fail) only [go_sem,simprocAttr]
   refine wcall (c32 _ _ _) ?_
   cases hl : within b.late 0 30 with
   | false => simp -failIfUnchanged (disch := first|omega|(simp<;>omega)|fail) only [go_sem,simprocAttr]; try simp
   | true =>
    simp -failIfUnchanged (disch := first|omega|(simp<;>omega)|fail) only [go_sem,simprocAttr]
    refine wp_loopF [1] Nat (fun i => ⟨[(1, .ptr 1 0), (25, .agg [ES b.ones, ES b.others]), (26, .int i)], [(1, ⟨[.int b.base, .int b.places, .int b.persons, .int b.late, ES b.ones, ES b.others], true⟩)], [], none⟩) (fun i => i ≤ 2 ∧ (1 ≤ i → listB b b.ones = true) ∧ (2 ≤ i → listB b b.others = true)) (fun i => 2 - i) 0 ⟨by omega, fun h => by omega, fun h => by omega⟩ (by simp -failIfUnchanged (disch := first|omega|(simp<;>omega)|fail) only [go_sem,simprocAttr]; try simp) ?_
    rintro i ⟨hi, q1, q2⟩
    simp -failIfUnchanged (disch := first|omega|(simp<;>omega)|fail) only [go_sem,simprocAttr]
    refine wcond_dec (fun hc => ?_) (fun hc => ?_)
    ·have hlt : i < 2 := by omega
     obtain ⟨L, hL, hsL, hbad, hgood⟩ : ∃ L : List En, ([ES b.ones, ES b.others] : List AV)[i]?.getD .und = ES L ∧ SmE L ∧ (listB b L = false → (listB b b.ones && listB b b.others) = false) ∧ (listB b L = true → (1 ≤ i + 1 → listB b b.ones = true) ∧ (2 ≤ i + 1 → listB b b.others = true)) := by
      match i, hlt with
      | 0, _ => exact ⟨b.ones, rfl, hs.ones, fun h => by rw [h]; rfl, fun h => ⟨fun _ => h, fun x => by omega⟩⟩
      | 1, _ => exact ⟨b.others, rfl, hs.others, fun h => by rw [h, Bool.and_false], fun h => ⟨fun _ => q1 (by omega), fun _ => h⟩⟩
     have k3 := h83 L hsL
     simp -failIfUnchanged (disch := first|omega|(simp<;>omega)|fail) only [go_sem,simprocAttr, hL]
     refine WGd_bool (fun h5 => ?_) (fun h5 => ?_)
     ·have h5' : (L.length : Int) ≤ 5 := by
       apply Classical.byContradiction
       intro hno
       have : decide ((5 : Int) < L.length) = true := decide_eq_true (by omega)
       rw [this] at h5
       cases h5
      simp -failIfUnchanged (disch := first|omega|(simp<;>omega)|fail) only [go_sem,simprocAttr, h5]
      refine wcall k3 ?_
      cases ha : L.all (entB b) with
      | true =>
       simp -failIfUnchanged (disch := first|omega|(simp<;>omega)|fail) only [go_sem,simprocAttr]
       refine ⟨i + 1, ⟨by omega, hgood (by unfold listB; rw [ha, decide_eq_true h5']; rfl)⟩, by dsimp only; omega, ?_⟩
       simp -failIfUnchanged (disch := first|omega|(simp<;>omega)|fail) only [go_sem,simprocAttr]
       try simp
      | false =>
       rw [hbad (by unfold listB; rw [ha, Bool.and_false])]
       simp -failIfUnchanged (disch := first|omega|(simp<;>omega)|fail) only [go_sem,simprocAttr]
       try simp
     ·have h5' : ¬ (L.length : Int) ≤ 5 := fun x => by
       have h6 : decide ((5 : Int) < L.length) = true := h5
       have := of_decide_eq_true h6
       omega
      rw [hbad (by unfold listB; rw [decide_eq_false h5']; rfl)]
      simp -failIfUnchanged (disch := first|omega|(simp<;>omega)|fail) only [go_sem,simprocAttr, h5]
      try simp
    ·have e : i = 2 := by omega
     rw [q1 (by omega), q2 (by omega)]
     simp -failIfUnchanged (disch := first|omega|(simp<;>omega)|fail) only [go_sem,simprocAttr]
     try simp
end Go.Proofs.YtggnmemkhookdaaGreatDoor.Fi

set_option linter.unusedSimpArgs false
set_option linter.unusedVariables false
set_option linter.unnecessarySimpa false
namespace Go.Proofs.YtggnmemkhookdaaGreatDoor.Fi
open Go Go.V Kn
structure Later (T : Prop) : Prop where
 out : T
theorem tailed {T G : Prop} (h : Later T → G) (t : T) : G := h ⟨t⟩
def askF (b : FB) (is : Bool) : Int := if chkB b then if is then 0 else 1 else 130
theorem c31 (b : FB) (hs : SmF b) (is : Bool) : Ctr Tryz.prog 31 [FK b, .bool is] (.int (askF b is)) := by
 refine ctr_of_wp hmix Tryz.func31 m31 rfl ?_
 have k := c28 b hs
 unfold errF at k
 unfold v31 askF
 simp -failIfUnchanged (disch := first|omega|(simp<;>omega)|fail) only [go_sem,simprocAttr]
 refine wcall k ?_
 cases chkB b with
 | false => simp -failIfUnchanged (disch := first|omega|(simp<;>omega)|fail) only [go_sem,simprocAttr]; try simp
 | true =>
  cases is with
  | false => simp -failIfUnchanged (disch := first|omega|(simp<;>omega)|fail) only [go_sem,simprocAttr]; try simp
  | true => simp -failIfUnchanged (disch := first|omega|(simp<;>omega)|fail) only [go_sem,simprocAttr]; try simp
def dayI (x y : En) : Int := max (w64 (x.day - y.day)) (w64 (y.day - x.day))
theorem c64 (x y : En) : Ctr Tryz.prog 64 [EN x, EN y] (.int (dayI x y)) := by
 refine ctr_of_wp hmix Tryz.func64 m64 rfl ?_
 unfold v64 dayI
 simp -failIfUnchanged (disch := first|omega|(simp<;>omega)|fail) only [go_sem,simprocAttr]
def cmS (s t : Sp) : Sp := ⟨max s.lo t.lo, min s.hi t.hi⟩
def comK (x y : List Sp) (k : Nat) : List Sp := (List.range k).map fun i => cmS (x[i]?.getD default) (y[i]?.getD default)
def comL (x y : List Sp) : List Sp := comK x y x.length
def fitB (l : List Sp) : Bool := l.all fun s => decide (s.lo ≤ s.hi)
def comB (late : Int) (x y : En) : Bool := decide (x.who = y.who) && (decide (dayI x y ≤ late) && fitB (comL x.cord y.cord))
theorem comK_succ (x y : List Sp) (k : Nat) : comK x y (k + 1) = comK x y k ++ [cmS (x[k]?.getD default) (y[k]?.getD default)] := by
 unfold comK
 rw [List.range_succ, List.map_append]
 rfl
theorem comK_len (x y : List Sp) (k : Nat) : (comK x y k).length = k := by simp [comK]
theorem fitB_snoc (l : List Sp) (s : Sp) : fitB (l ++ [s]) = (fitB l && decide (s.lo ≤ s.hi)) := by simp [fitB]
theorem c35 (late : Int) (x y : En) (h : x.cord.length ≤ y.cord.length) (hl : y.cord.length < 4294967296) : Ctr Tryz.prog 35 [.int late, EN x, EN y] (.tup [SS (comL x.cord y.cord), .bool (comB late x y)]) := by
 refine ctr_of_wp hmix Tryz.func35 m35 rfl ?_
 unfold v35
 obtain ⟨q, hq⟩ : ∃ q, (decide (x.who = y.who) && decide (dayI x y ≤ late)) = q := ⟨_, rfl⟩
 have hcb : comB late x y = (q && fitB (comL x.cord y.cord)) := by unfold comB; rw [← hq, Bool.and_assoc]
 rw [hcb]
 simp -failIfUnchanged (disch := first|omega|(simp<;>omega)|fail) only [go_sem,simprocAttr]
 refine tailed (T := ?Tx) (fun tail => ?mx) ?tx
 case mx =>
  refine WGd_bool (fun h1 => ?_) (fun h1 => ?_)
  ·simp -failIfUnchanged (disch := first|omega|(simp<;>omega)|fail) only [go_sem,simprocAttr, h1]
   refine wcall (c64 x y) ?_
   rw [h1, Bool.true_and] at hq
   simp -failIfUnchanged (disch := first|omega|(simp<;>omega)|fail) only [go_sem,simprocAttr, hq]
   exact tail.out
  ·have h1' : decide (x.who = y.who) = false := h1
   rw [h1', Bool.false_and] at hq
   subst hq
   simp -failIfUnchanged (disch := first|omega|(simp<;>omega)|fail) only [go_sem,simprocAttr, h1]
   exact tail.out
 case tx =>
  refine wp_loop' Nat (fun i => ⟨[(5, .ptr 5 0), (8, .bool (q && fitB (comK x.cord y.cord i))), (9, .sl 2 ((comK x.cord y.cord i).map SP) (.own 9)), (27, SS x.cord), (28, .int x.cord.length), (29, .int i)], [(5, ⟨[.int y.day, .int y.who, SS y.cord], false⟩)], [(9, (comK x.cord y.cord i).length)], none⟩) (fun i => i ≤ x.cord.length) (fun i => x.cord.length - i) 0 (by simp) (by simp -failIfUnchanged (disch := first|omega|(simp<;>omega)|fail) only [go_sem,simprocAttr]; simp [comK, fitB]) ?_
  intro i hi
  have hi : i ≤ x.cord.length := hi
  simp -failIfUnchanged (disch := first|omega|(simp<;>omega)|fail) only [go_sem,simprocAttr]
  refine wcond_dec (fun hc => ?_) (fun hc => ?_)
  ·have hlt : i < x.cord.length := by omega
   have hcs := comK_succ x.cord y.cord i
   have hfs : fitB (comK x.cord y.cord (i + 1)) = (fitB (comK x.cord y.cord i) && decide ((cmS (x.cord[i]?.getD default) (y.cord[i]?.getD default)).lo ≤ (cmS (x.cord[i]?.getD default) (y.cord[i]?.getD default)).hi)) := by rw [hcs, fitB_snoc]
   have hkl := comK_len x.cord y.cord i
   obtain ⟨u, hu⟩ : ∃ u, x.cord[i]?.getD default = u := ⟨_, rfl⟩
   obtain ⟨v, hv⟩ : ∃ v, y.cord[i]?.getD default = v := ⟨_, rfl⟩
   rw [hu, hv] at hcs hfs
   obtain ⟨g, hg⟩ : ∃ g, (q && fitB (comK x.cord y.cord i)) = g := ⟨_, rfl⟩
   have hgs : (q && fitB (comK x.cord y.cord (i + 1))) = (g && decide (max u.lo v.lo ≤ min u.hi v.hi)) := by rw [hfs, ← Bool.and_assoc, hg]; rfl
   obtain ⟨K, hK⟩ : ∃ K, comK x.cord y.cord i = K := ⟨_, rfl⟩
   rw [hK] at hcs hkl hg
   simp -failIfUnchanged (disch := first|omega|(simp<;>omega)|fail) only [go_sem,simprocAttr, hu, hv, hg, hK]
   refine WGd_bool (fun h1 => ?_) (fun h1 => ?_)
   ·rw [h1, Bool.true_and] at hgs
    simp -failIfUnchanged (disch := first|omega|(simp<;>omega)|fail) only [go_sem,simprocAttr, h1]
    refine ⟨i + 1, by dsimp only; omega, by dsimp only; omega, ?_⟩
    dsimp only
    rw [hgs, hcs]
    simp -failIfUnchanged (disch := first|omega|(simp<;>omega)|fail) only [go_sem,simprocAttr]
    simp [cmS, hkl]
   ·have h1' : g = false := h1
    rw [h1', Bool.false_and] at hgs
    simp -failIfUnchanged (disch := first|omega|(simp<;>omega)|fail) only [go_sem,simprocAttr, h1]
    refine ⟨i + 1, by dsimp only; omega, by dsimp only; omega, ?_⟩
    dsimp only
    rw [hgs, hcs]
    simp -failIfUnchanged (disch := first|omega|(simp<;>omega)|fail) only [go_sem,simprocAttr]
    simp [cmS, hkl]
  ·have e : i = x.cord.length := by omega
   subst e
   simp -failIfUnchanged (disch := first|omega|(simp<;>omega)|fail) only [go_sem,simprocAttr]
   try simp [comL]
end Go.Proofs.YtggnmemkhookdaaGreatDoor.Fi

set_option linter.unusedSimpArgs false
set_option linter.unusedVariables false
set_option linter.unnecessarySimpa false
namespace Go.Proofs.YtggnmemkhookdaaGreatDoor.Fi
open Go Go.V Kn
structure VC1 (b : FB) (l : List Sp) : Prop where
 n : (l.length : Int) = b.places
 s : ∀ s ∈ l, 0 ≤ s.lo ∧ s.lo ≤ s.hi ∧ s.hi < b.base
structure VE (b : FB) (e : En) : Prop where
 d : 0 ≤ e.day ∧ e.day ≤ 99
 w : 0 ≤ e.who ∧ e.who < b.persons
 c : VC1 b e.cord
structure VF (b : FB) : Prop where
 bs : 2 ≤ b.base ∧ b.base ≤ 10
 pl : 1 ≤ b.places ∧ b.places ≤ 4
 pe : 0 ≤ b.persons ∧ b.persons ≤ 4
 la : 0 ≤ b.late ∧ b.late ≤ 30
 n1 : b.ones.length ≤ 5
 n2 : b.others.length ≤ 5
 e1 : ∀ e ∈ b.ones, VE b e
 e2 : ∀ e ∈ b.others, VE b e
theorem cd_iff {b : FB} {l : List Sp} : cdB b l = true ↔ VC1 b l := by
 unfold cdB isCordB badS within
 simp only [Bool.and_eq_true, decide_eq_true_eq, Bool.not_eq_true', List.any_eq_false, Bool.or_eq_true, not_or, Bool.not_eq_eq_eq_not, Bool.not_true, decide_eq_false_iff_not]
 constructor
 ·rintro ⟨h1, h2⟩
  exact ⟨h1, fun s hs => by have := h2 s hs; omega⟩
 ·rintro ⟨h1, h2⟩
  exact ⟨h1, fun s hs => by have := h2 s hs; omega⟩
theorem vf_of {b : FB} (h : chkB b = true) : VF b := by
 simp only [chkB, bpB, listB, Bool.and_eq_true, within, decide_eq_true_eq, List.all_eq_true] at h
 obtain ⟨⟨h1, h2⟩, h3, h4, ⟨h5, h6⟩, h7, h8⟩ := h
 have key : ∀ e, entB b e = true → VE b e := fun e he => by
  simp only [entB, within, Bool.and_eq_true, decide_eq_true_eq] at he
  obtain ⟨k1, k2, _, k4⟩ := he
  rw [w64_id (by omega)] at k2
  exact ⟨k1, by omega, cd_iff.1 k4⟩
 exact ⟨h1, h2, h3, h4, by omega, by omega, fun e he => key e (h6 e he), fun e he => key e (h8 e he)⟩
theorem bp_of {b : FB} (hv : VF b) : bpB b = true := by
 simp only [bpB, within, Bool.and_eq_true, decide_eq_true_eq]
 exact ⟨hv.bs, hv.pl⟩
def one (b : FB) (i : Nat) : En := b.ones[i]?.getD default
def oth (b : FB) (i : Nat) : En := b.others[i]?.getD default
theorem one_v {b : FB} (hv : VF b) {i : Nat} (h : i < b.ones.length) : VE b (one b i) := hv.e1 _ (mem_getD h)
theorem oth_v {b : FB} (hv : VF b) {i : Nat} (h : i < b.others.length) : VE b (oth b i) := hv.e2 _ (mem_getD h)
theorem both_len {b : FB} {x y : List Sp} (hx : VC1 b x) (hy : VC1 b y) : x.length = y.length := by
 have := hx.n
 have := hy.n
 omega
theorem com_v {b : FB} {x y : List Sp} (hx : VC1 b x) (hy : VC1 b y) (hf : fitB (comL x y) = true) : VC1 b (comL x y) := by
 refine ⟨?_, fun s hs => ?_⟩
 ·have := hx.n
  unfold comL
  rw [comK_len]
  exact this
 ·unfold fitB at hf
  have h1 := of_decide_eq_true (List.all_eq_true.1 hf s hs)
  unfold comL comK at hs
  obtain ⟨i, hi, rfl⟩ := List.mem_map.1 hs
  have hi := List.mem_range.1 hi
  have hl := both_len hx hy
  have k1 := hx.s _ (mem_getD (l := x) (i := i) hi)
  have k2 := hy.s _ (mem_getD (l := y) (i := i) (by omega))
  unfold cmS at h1 ⊢
  dsimp only at h1 ⊢
  omega
theorem c57 (b : FB) (hb : bpB b = true) (l : List Sp) (hl : cdB b l = true) : Ctr Tryz.prog 57 [FK b, SS l] (SP (endsL b.base l)) := by
 refine ctr_of_wp hmix Tryz.func57 m57 rfl ?_
 unfold v57
 have hc := cd_iff.1 hl
 have hp : b.places ≤ 4 := by simp only [bpB, within, Bool.and_eq_true, decide_eq_true_eq] at hb; exact hb.2.2
 have k1 := c51 b [l]
 have k2 := c8 (ktd b [l]) (small_k b (by simp) (by have := hc.n; intro x hx; simp at hx; subst hx; omega)) 0
 rw [check_k1, hb, hl] at k2
 have hw : within 0 0 (([l] : List (List Sp)).length : Int) = true := rfl
 change Ctr Tryz.prog 8 [KB (ktd b [l]), .int 0] (if true = true then if within 0 0 (([l] : List (List Sp)).length : Int) = true then .tup [SP (endsL b.base l), .int 0] else _ else _) at k2
 rw [hw] at k2
 simp only [if_true] at k2
 simp -failIfUnchanged (disch := first|omega|(simp<;>omega)|fail) only [go_sem,simprocAttr]
 refine wcall k1 ?_
 simp -failIfUnchanged (disch := first|omega|(simp<;>omega)|fail) only [go_sem,simprocAttr]
 refine wcall k2 ?_
 simp -failIfUnchanged (disch := first|omega|(simp<;>omega)|fail) only [go_sem,simprocAttr]
theorem pr_0 {b : FB} {is : Bool} (h : askF b is = 0) : chkB b = true ∧ is = true := by
 unfold askF at h
 cases hc : chkB b with
 | false => rw [hc] at h; simp at h
 | true =>
  rw [hc] at h
  cases is with
  | false => simp at h
  | true => exact ⟨rfl, rfl⟩
theorem ask_ok {b : FB} {is : Bool} (h : chkB b = true) (hi : is = true) : askF b is = 0 := by simp [askF, h, hi]
def pcI (b : FB) (x y : En) : Sp := endsL b.base (comL x.cord y.cord)
end Go.Proofs.YtggnmemkhookdaaGreatDoor.Fi

set_option linter.unusedSimpArgs false
set_option linter.unusedVariables false
set_option linter.unnecessarySimpa false
namespace Go.Proofs.YtggnmemkhookdaaGreatDoor.Fi
open Go Go.V Kn
def usedB (m : List Pa) (o : Nat) : Bool := m.any fun p => decide (p.other = (o : Int))
def mtF (b : FB) : Nat → List Pa → List (List Pa)
 | 0, m => [m]
 | k + 1, m => mtF b k m ++ (List.range b.others.length).flatMap fun o =>
   if usedB m o = false ∧ comB b.late (one b (b.ones.length - (k + 1))) (oth b o) = true then mtF b k (m ++ [⟨((b.ones.length - (k + 1) : Nat) : Int), (o : Int)⟩]) else []
def stpL (out : List (List Pa)) (m : List Pa) : List (List Pa) :=
 match out with
 | [] => [m]
 | a :: r => if a.length < m.length then [m] else if m.length = a.length then a :: r ++ [m] else a :: r
def lrgL (b : FB) : List (List Pa) := (mtF b b.ones.length []).foldl stpL []
theorem stpL_len (out : List (List Pa)) (m : List Pa) : (stpL out m).length ≤ out.length + 1 := by
 unfold stpL
 split
 ·simp
 ·split
  ·simp
  ·split <;> simp
theorem fold_len : ∀ (l out : List (List Pa)), (l.foldl stpL out).length ≤ out.length + l.length
 | [], out => by simp
 | m :: l, out => by
  rw [List.foldl_cons, List.length_cons]
  have h1 := fold_len l (stpL out m)
  have h2 := stpL_len out m
  omega
theorem fm_len {α : Type} (n c : Nat) (g : Nat → List α) (h : ∀ i, (g i).length ≤ c) : ((List.range n).flatMap g).length ≤ n * c := by
 induction n with
 | zero => simp
 | succ n ih =>
  rw [List.range_succ, List.flatMap_append, List.length_append, Nat.succ_mul]
  have h2 := h n
  simp only [List.flatMap_cons, List.flatMap_nil, List.append_nil]
  omega
theorem mtF_len {b : FB} (h5 : b.others.length ≤ 5) : ∀ (k : Nat) (m : List Pa), (mtF b k m).length ≤ 6 ^ k
 | 0, _ => by simp [mtF]
 | k + 1, m => by
  have h1 := mtF_len h5 k m
  have h2 := fm_len b.others.length (6 ^ k) (fun o => if usedB m o = false ∧ comB b.late (one b (b.ones.length - (k + 1))) (oth b o) = true then mtF b k (m ++ [⟨((b.ones.length - (k + 1) : Nat) : Int), (o : Int)⟩]) else []) fun o => by
   split
   ·exact mtF_len h5 k _
   ·simp
  have h3 : b.others.length * 6 ^ k ≤ 5 * 6 ^ k := Nat.mul_le_mul_right _ h5
  rw [mtF, List.length_append, Nat.pow_succ]
  omega
def bitsOK (u : BitVec 64) (m : List Pa) : Prop := ∀ o : Nat, o < 64 → u.getLsbD o = usedB m o
theorem bits_0 : bitsOK 0 [] := fun o _ => by simp [usedB]
theorem bit_test (u : BitVec 64) (o : Nat) (h : o < 64) : decide ((u >>> min o 64) &&& 1#64 = 1#64) = u.getLsbD o := by
 have e : min o 64 = o := by omega
 rw [e]
 cases hb : u.getLsbD o with
 | true =>
  apply decide_eq_true
  apply BitVec.eq_of_getLsbD_eq
  intro i hi
  simp only [BitVec.getLsbD_and, BitVec.getLsbD_ushiftRight]
  by_cases h0 : i = 0
  ·subst h0; simp [hb]
  ·simp [BitVec.getLsbD_one, h0]
 | false =>
  apply decide_eq_false
  intro he
  have := congrArg (fun x => x.getLsbD 0) he
  simp [hb] at this
theorem bit_set {u : BitVec 64} {m : List Pa} (hu : bitsOK u m) (i : Int) (o : Nat) (h : o < 64) : bitsOK (u ||| 1#64 <<< min o 64) (m ++ [⟨i, (o : Int)⟩]) := by
 intro j hj
 have e : min o 64 = o := by omega
 rw [e]
 have e2 : usedB (m ++ [⟨i, (o : Int)⟩]) j = (usedB m j || decide (o = j)) := by
  simp only [usedB, List.any_append, List.any_cons, List.any_nil, Bool.or_false]
  congr 1
  apply decide_eq_decide.2
  omega
 rw [e2, ← hu j hj]
 simp only [BitVec.getLsbD_or, BitVec.getLsbD_shiftLeft]
 congr 1
 by_cases hjo : o = j
 ·subst hjo; simp [hj]
 ·simp [hjo, hj, BitVec.getLsbD_one]
  omega
end Go.Proofs.YtggnmemkhookdaaGreatDoor.Fi

set_option linter.unusedSimpArgs false
set_option linter.unusedVariables false
set_option linter.unnecessarySimpa false
namespace Go.Proofs.YtggnmemkhookdaaGreatDoor.Fi
open Go Go.V Kn
theorem wop_n {P : Env} {dr : Bool} {d : Option Nat} {op : VOp} {next : AS → Prop} {fr : FrL} {hp : HpL} {tk : TkL} {pd : Option Ex} : WOp P dr ⟨d, op, none⟩ next ⟨fr, hp, tk, pd⟩ = WD P dr d op next ⟨fr, hp, tk, pd⟩ := rfl
theorem wop_g {P : Env} {dr : Bool} {d : Option Nat} {op : VOp} {t : Nat} {w : Bool} {next : AS → Prop} {fr : FrL} {hp : HpL} {tk : TkL} {pd : Option Ex} : WOp P dr ⟨d, op, some (t, w)⟩ next ⟨fr, hp, tk, pd⟩ = WGd P dr (get fr t) w d op next ⟨fr, hp, tk, pd⟩ := rfl
attribute [go_sem] wop_n wop_g
theorem csem_sh {E : Env} {f : FuncId} {sz : Nat} {es : List AV} {md : VM} {r : List AV} {hp : HpL} {tk : TkL} {pd : Option Ex} {Q : AV → HpL → TkL → Option Ex → Prop} (h : CSem E f (.sl sz es .sh :: r) hp tk pd Q) : CSem E f (.sl sz es md :: r) hp tk pd Q :=
 ⟨h.1, fun C0 w0 X K L w vs h1 h2 h3 h4 => h.2 C0 w0 X K L w vs h1 h2 (by simpa using h3) (by
  obtain ⟨C, m', tk', own, hr⟩ := h4
  refine ⟨C, m', tk', own, ?_⟩
  refine { gf := hr.gf, below := hr.below, c0 := hr.c0, cnew := hr.cnew, cval := hr.cval, nc := ⟨hr.nc.k, hr.nc.l, hr.nc.d, hr.nc.nd, hr.nc.dis, hr.nc.m⟩, ext := ?_, size := hr.size, slots := hr.slots, boxes := hr.boxes, mdom := hr.mdom, toks := hr.toks, tdom := hr.tdom, owned := hr.owned, owns := hr.owns }
  intro p hp t
  rcases List.mem_cons.1 hp with rfl | hp
  ·have h5 := hr.ext (vs, args0 0 (.sl sz es md :: r)) (by simp) t
   by_cases e : 0 = t
   ·subst e
    have h6 := rep_sl h5
    exact h6.toRep
   ·simp only [args0, V.get, if_neg e] at h5 ⊢
    exact h5
  ·exact hr.ext p (List.mem_cons_of_mem _ hp) t)⟩
abbrev FKc (b : FB) : List AV := [.int b.base, .int b.places, .int b.persons, .int b.late, ES b.ones, ES b.others]
abbrev hpO (b : FB) (l : Nat) (R : HpL) : HpL := (2003, ⟨[.clw 79 [] [.ptr 1001 0, .ptr 2002 0, .ptr 2003 0]], false⟩) :: (2002, ⟨[.yld l], false⟩) :: (1001, ⟨FKc b, false⟩) :: R
def LH (hp' hp : HpL) : Prop := ∀ τ : AS, τ.hp = hp → leHp τ hp' hp
def LT (tk' tk : TkL) : Prop := leTk ⟨[], [], [], none⟩ tk' tk
theorem leTk_any {τ τ' : AS} {a : TkL} : ∀ {c : TkL}, leTk τ a c → leTk τ' a c
 | [], _ => trivial
 | (_, _) :: _, h => ⟨h.1, leTk_any h.2⟩
theorem LT_get {a : TkL} : ∀ {c : TkL}, LT a c → ∀ k n, getT c k = some n → getT a k = some n
 | [], _, k, n, h => by simp [getT] at h
 | (x, y) :: r, h, k, n, hk => by
  simp only [getT] at hk
  by_cases e : x = k
  ·rw [if_pos e] at hk
   injection hk with hk
   subst hk
   subst e
   exact h.1
  ·rw [if_neg e] at hk
   exact LT_get h.2 k n hk
theorem LT_trans {a c : TkL} (h1 : LT a c) : ∀ {d : TkL}, LT c d → LT a d
 | [], _ => trivial
 | (_, _) :: _, h => ⟨LT_get h1 _ _ h.1, LT_trans h1 h.2⟩
theorem LT_new {k n : Nat} {a : TkL} : ∀ {c : TkL}, getT c k = none → LT a c → LT ((k, n) :: a) c
 | [], _, _ => trivial
 | (x, y) :: r, h, h2 => by
  simp only [getT] at h
  by_cases e : x = k
  ·rw [if_pos e] at h; cases h
  ·rw [if_neg e] at h
   refine ⟨?_, LT_new h h2.2⟩
   simp only [getT]
   rw [if_neg (fun x => e x.symm)]
   exact h2.1
theorem leHp_new {τ : AS} {k : Nat} {x : BX} {a : HpL} : ∀ {c : HpL}, getB c k = none → leHp τ a c → leHp τ ((k, x) :: a) c
 | [], _, _ => trivial
 | (b, y) :: r, h, h2 => by
  simp only [getB] at h
  by_cases e : b = k
  ·rw [if_pos e] at h; cases h
  ·rw [if_neg e] at h
   refine ⟨?_, h2.2.1, leHp_new h h2.2.2⟩
   simp only [getB]
   rw [if_neg (fun x => e x.symm)]
   exact h2.1
def YOK (b : FB) (l : Nat) (R : List (List Pa) → HpL) (T : YT) (tk0 : TkL) : Prop :=
 ∀ (Xa : List FrL) (out : List (List Pa)) (m : List Pa) (tk : TkL) (post : Bool → HpL → TkL → Option Ex → Prop), out.length < 4000000000 → LT tk tk0 → LT tk tk →
  (∀ hp' tk', LH hp' (hpO b l (R (stpL out m))) → LT tk' tk → post true hp' tk' none) → T Xa [PS m] (hpO b l (R out)) tk post
theorem c79w (b : FB) (hv : VF b) (l : Nat) (R : List (List Pa) → HpL) (T : YT) (tk0 : TkL) (hT : YOK b l R T tk0) (hR : ∀ o, getB (R o) 3011 = none) (hRL : ∀ o, LH (hpO b l (R o)) (hpO b l (R o))) :
  ∀ (k : Nat) (m : List Pa) (u : BitVec 64) (out : List (List Pa)) (j : Nat) (tk : TkL) (X : List FrL), k ≤ b.ones.length → out.length + 6 ^ k ≤ 4000000000 → m.length ≤ b.ones.length - k → bitsOK u m → LT tk tk0 → LT tk tk → (∀ i, j ≤ i → getT tk i = none) →
   (∀ (out : List (List Pa)) (τ : AS), τ.hp = hpO b l (R out) → LT τ.tk tk → leX τ X) →
   CSem ⟨Tryz.prog, X, some (l, T), false⟩ 79 [PS m, .int ((b.ones.length - k : Nat) : Int), .un u, .ptr 1001 0, .ptr 2002 0, .ptr 2003 0] (hpO b l (R out)) tk none
    (fun r hp' tk' pd' => r = .bool true ∧ LH hp' (hpO b l (R ((mtF b k m).foldl stpL out))) ∧ LT tk' tk ∧ pd' = none) := by
 intro k
 induction k with
 | zero =>
  intro m u out j tk X hk hol hml hu h0 hs hj hX
  refine csem_of_wp hmix Tryz.func79 (m79r j) rfl rfl ?_
  unfold v79r
  have e : ((b.ones.length - 0 : Nat) : Int) = (b.ones.length : Int) := by simp
  rw [e]
  simp -failIfUnchanged (disch := first|omega|(simp<;>omega)|fail) only [go_sem,simprocAttr]
  refine wyield (hT _ out m tk _ (by simp at hol; omega) h0 hs fun hp' tk' h1 h2 => ?_)
  simp -failIfUnchanged (disch := first|omega|(simp<;>omega)|fail) only [go_sem,simprocAttr]
  exact ⟨h1, h2⟩
 | succ k ih =>
  intro m u out j tk X hk hol hml hu h0 hs hj hX
  obtain ⟨q, hq⟩ : ∃ q, b.ones.length - (k + 1) = q := ⟨_, rfl⟩
  have hq1 : b.ones.length - k = q + 1 := by omega
  have hql : q < b.ones.length := by omega
  have hn1 := hv.n1
  have hn2 := hv.n2
  rw [hq1] at ih
  rw [hq] at hml ⊢
  have e1 : ((q : Nat) : Int) + 1 = ((q + 1 : Nat) : Int) := by omega
  refine csem_of_wp hmix Tryz.func79 (m79r j) rfl rfl ?_
  unfold v79r
  simp -failIfUnchanged (disch := first|omega|(simp<;>omega)|fail) only [go_sem,simprocAttr]
  refine wcond_dec (fun h => ?_) (fun h => ?_)
  ·exfalso; omega
  ·simp -failIfUnchanged (disch := first|omega|(simp<;>omega)|fail) only [go_sem,simprocAttr, e1]
   refine wcalli (ih m u out j tk (_ :: X) (by omega) (by rw [Nat.pow_succ] at hol; omega) (by omega) hu h0 hs hj ?_) ?_
   ·intro out' τ hτ hτk
    obtain ⟨f, hp, t, p⟩ := τ
    dsimp only at hτ
    subst hτ
    have := hX out' ⟨f, _, t, p⟩ rfl hτk
    simp -failIfUnchanged (disch := first|omega|(simp<;>omega)|fail) only [go_sem,simprocAttr]
    exact this
   ·rintro r hp' tk' pd' ⟨rfl, g1, g2, rfl⟩
    obtain ⟨S, hS⟩ : ∃ S : Nat → List (List Pa), ∀ o, S o = ((mtF b k m ++ (List.range o).flatMap fun o => if usedB m o = false ∧ comB b.late (one b q) (oth b o) = true then mtF b k (m ++ [⟨(q : Int), (o : Int)⟩]) else []).foldl stpL out) := ⟨_, fun _ => rfl⟩
    have hS0 : (mtF b k m).foldl stpL out = S 0 := by rw [hS]; simp
    have hSs : ∀ o, S (o + 1) = (if usedB m o = false ∧ comB b.late (one b q) (oth b o) = true then mtF b k (m ++ [⟨(q : Int), (o : Int)⟩]) else []).foldl stpL (S o) := fun o => by
     rw [hS, hS, List.range_succ, List.flatMap_append, ← List.append_assoc, List.foldl_append]
     simp
    have hSn : (mtF b (k + 1) m).foldl stpL out = S b.others.length := by rw [hS, mtF, hq]
    have hSl : ∀ o, (S o).length ≤ out.length + (1 + o) * 6 ^ k := fun o => by
     rw [hS]
     have f1 := fold_len (mtF b k m ++ (List.range o).flatMap fun o => if usedB m o = false ∧ comB b.late (one b q) (oth b o) = true then mtF b k (m ++ [⟨(q : Int), (o : Int)⟩]) else []) out
     have f2 := mtF_len hn2 k m
     have f3 := fm_len o (6 ^ k) (fun o => if usedB m o = false ∧ comB b.late (one b q) (oth b o) = true then mtF b k (m ++ [⟨(q : Int), (o : Int)⟩]) else []) fun o => by
      split
      ·exact mtF_len hn2 k _
      ·simp
     rw [List.length_append] at f1
     rw [Nat.add_mul, Nat.one_mul]
     omega
    rw [hSn]
    rw [hS0] at g1
    have g3 := g1 ⟨[], _, [], none⟩ rfl
    have g1001 : getB hp' 1001 = some ⟨FKc b, false⟩ := g3.2.2.2.2.1
    simp -failIfUnchanged (disch := first|omega|(simp<;>omega)|fail) only [go_sem,simprocAttr, g1001]
    refine wp_loopY Nat (fun o => ⟨[(0, PS m), (1, .int q), (2, .un u), (3, .ptr 1001 0), (5, .ptr 2003 0), (30, ES b.others), (31, .int b.others.length), (32, .int o)], hpO b l (R (S o)), tk, none⟩) (fun o => o ≤ b.others.length) (fun o => b.others.length - o) 0 (by simp) ?_ (fun o => hX (S o) _ rfl hs) ?_
    ·refine ⟨?_, g1 _ rfl, leTk_any g2, rfl⟩
     simp -failIfUnchanged (disch := first|omega|(simp<;>omega)|fail) only [go_sem,simprocAttr]
     try simp
    ·intro o ho
     have ho : o ≤ b.others.length := ho
     simp -failIfUnchanged (disch := first|omega|(simp<;>omega)|fail) only [go_sem,simprocAttr]
     refine wcond_dec (fun hc => ?_) (fun hc => ?_)
     ·have hlt : o < b.others.length := by omega
      have hbt := bit_test u o (by omega)
      rw [hu o (by omega)] at hbt
      have x1 := (one_v hv hql).c
      have x2 := (oth_v hv hlt).c
      have hpl := hv.pl
      have hx2 := x2.n
      have k79 := c35 b.late (one b q) (oth b o) (by rw [both_len x1 x2]; exact Nat.le_refl _) (by omega)
      have hgo : b.others[o]?.getD default = oth b o := rfl
      have hg1 : b.ones[q]?.getD default = one b q := rfl
      have hss := hSs o
      have hRo := hR (S o)
      have hXS : ∀ o fr, leX ⟨fr, hpO b l (R (S o)), tk, none⟩ X := fun o fr => hX (S o) _ rfl hs
      simp -failIfUnchanged (disch := first|omega|(simp<;>omega)|fail) only [go_sem,simprocAttr, hgo, hbt, hRo]
      cases hub : usedB m o with
      | true =>
       rw [hub, if_neg (by simp), List.foldl_nil] at hss
       simp -failIfUnchanged (disch := first|omega|(simp<;>omega)|fail) only [go_sem,simprocAttr, hub]
       refine lpy_norm (fun x => hXS _ _) ⟨o + 1, by omega, by omega, ?_⟩
       rw [hss]
       refine ⟨?_, leHp_new (by simp [getB, hRo]) (hRL (S o) _ rfl), leTk_any hs, rfl⟩
       simp -failIfUnchanged (disch := first|omega|(simp<;>omega)|fail) only [go_sem,simprocAttr]
       try simp
      | false =>
       simp -failIfUnchanged (disch := first|omega|(simp<;>omega)|fail) only [go_sem,simprocAttr, hub, hg1]
       refine wcall k79 ?_
       simp -failIfUnchanged (disch := first|omega|(simp<;>omega)|fail) only [go_sem,simprocAttr]
       obtain ⟨cm, hcm⟩ : ∃ cm, comB b.late (one b q) (oth b o) = cm := ⟨_, rfl⟩
       rw [hcm]
       rw [hub, hcm] at hss
       refine wopsBW ⟨[(0, PS m), (1, .int q), (2, .un u), (3, .ptr 1001 0), (5, .ptr 2003 0), (10, .int o), (13, .bool cm), (30, ES b.others), (31, .int b.others.length), (32, .int o)], hpO b l (R (S o)), tk, none⟩ ?_ (hXS _ _) ?_
       ·refine ⟨?_, leHp_new (by simp [getB, hRo]) (hRL (S o) _ rfl), leTk_any hs, rfl⟩
        simp -failIfUnchanged (disch := first|omega|(simp<;>omega)|fail) only [go_sem,simprocAttr]
        try simp
       ·cases cm with
        | false =>
         rw [if_neg (by simp), List.foldl_nil] at hss
         simp -failIfUnchanged (disch := first|omega|(simp<;>omega)|fail) only [go_sem,simprocAttr]
         refine lpy_norm (fun x => hXS _ _) ⟨o + 1, by omega, by omega, ?_⟩
         rw [hss]
         refine ⟨?_, hRL (S o) _ rfl, leTk_any hs, rfl⟩
         simp -failIfUnchanged (disch := first|omega|(simp<;>omega)|fail) only [go_sem,simprocAttr]
         try simp
        | true =>
         rw [if_pos ⟨rfl, rfl⟩] at hss
         simp -failIfUnchanged (disch := first|omega|(simp<;>omega)|fail) only [go_sem,simprocAttr]
         rw [wsliceF_len (by simp)]
         simp -failIfUnchanged (disch := first|omega|(simp<;>omega)|fail) only [go_sem,simprocAttr]
         refine ⟨hj j (Nat.le_refl _), ?_⟩
         have hpa : m.map PA ++ [AV.agg [AV.int (q : Int), AV.int (o : Int)]] = (m ++ [(⟨(q : Int), (o : Int)⟩ : Pa)]).map PA := by simp
         simp -failIfUnchanged (disch := first|omega|(simp<;>omega)|fail) only [go_sem,simprocAttr, e1, hpa]
         have hjn := hj j (Nat.le_refl _)
         have hSo : (S o).length + 6 ^ k ≤ 4000000000 := by
          have f1 := hSl o
          have f2 : (1 + o) * 6 ^ k ≤ 5 * 6 ^ k := Nat.mul_le_mul_right _ (by omega)
          rw [Nat.pow_succ] at hol
          omega
         have hg0 : LT ((j, m.length + 1) :: tk) tk := LT_new hjn hs
         have hs2 : LT ((j, m.length + 1) :: tk) ((j, m.length + 1) :: tk) := ⟨by simp [getT], hg0⟩
         refine wcalli (csem_sh (ih (m ++ [⟨(q : Int), (o : Int)⟩]) (u ||| 1#64 <<< min o 64) (S o) (j + 1) ((j, m.length + 1) :: tk) (_ :: X) (by omega) hSo (by simp; omega) (bit_set hu _ o (by omega)) (LT_trans hg0 h0) hs2 ?_ ?_)) ?_
         ·intro i hi
          simp only [getT]
          rw [if_neg (by omega)]
          exact hj i (by omega)
         ·intro out' τ hτ hτk
          obtain ⟨f, hp, t, p⟩ := τ
          dsimp only at hτ
          subst hτ
          have := hX out' ⟨f, _, t, p⟩ rfl (LT_trans hτk hg0)
          have htj : getT t j = some (m.length + 1) := LT_get hτk j _ (by simp [getT])
          simp -failIfUnchanged (disch := first|omega|(simp<;>omega)|fail) only [go_sem,simprocAttr, htj]
          exact this
         ·rintro r hp2 tk2 pd2 ⟨rfl, g4, g5, rfl⟩
          simp -failIfUnchanged (disch := first|omega|(simp<;>omega)|fail) only [go_sem,simprocAttr]
          refine lpy_norm (fun x => hXS _ _) ⟨o + 1, by omega, by omega, ?_⟩
          rw [hss]
          refine ⟨?_, g4 _ rfl, leTk_any (LT_trans g5 hg0), rfl⟩
          simp -failIfUnchanged (disch := first|omega|(simp<;>omega)|fail) only [go_sem,simprocAttr]
          try simp
     ·have e : o = b.others.length := by omega
      subst e
      simp -failIfUnchanged (disch := first|omega|(simp<;>omega)|fail) only [go_sem,simprocAttr]
      exact ⟨hRL _, hs⟩
end Go.Proofs.YtggnmemkhookdaaGreatDoor.Fi

set_option linter.unusedSimpArgs false
set_option linter.unusedVariables false
set_option linter.unnecessarySimpa false
namespace Go.Proofs.YtggnmemkhookdaaGreatDoor.Fi
open Go Go.V Kn
def outB (b : FB) : List (List Pa) → HpL
 | [] => [(3, ⟨[.sl 1 [] .full], false⟩), (1, ⟨FKc b, false⟩)]
 | a :: r => [(K 35 a.length r.length, ⟨(a :: r).map PS, false⟩), (3, ⟨[.gsl 35 a.length r.length 1 (r.length + 1) false], false⟩), (1, ⟨FKc b, false⟩)]
theorem outB_new (b : FB) (o : List (List Pa)) {k : Nat} (h : k < 1048576) (h1 : k ≠ 1) (h3 : k ≠ 3) : getB (outB b o) k = none := by
 cases o with
 | nil => simp [outB, getB, Ne.symm h1, Ne.symm h3]
 | cons a r => simp [outB, getB, Ne.symm h1, Ne.symm h3, K_ne h]
theorem scopes_ps (τ : AS) (l : List (List Pa)) : scopes τ (l.map PS) := by
 induction l with
 | nil => trivial
 | cons a r ih => exact ⟨trivial, ih⟩
theorem outB_self (b : FB) (l : Nat) (o : List (List Pa)) : LH (hpO b l (outB b o)) (hpO b l (outB b o)) := by
 intro τ hτ
 obtain ⟨f, hp, t, p⟩ := τ
 dsimp only at hτ
 subst hτ
 have hs := scopes_ps ⟨f, hpO b l (outB b o), t, p⟩
 cases o with
 | nil =>
  unfold outB
  simp -failIfUnchanged (disch := first|omega|(simp<;>omega)|fail) only [go_sem,simprocAttr]
  try simp
 | cons a r =>
  unfold outB at hs ⊢
  have h2 := hs r
  simp -failIfUnchanged (disch := first|omega|(simp<;>omega)|fail) only [go_sem,simprocAttr]
  exact h2
theorem chunks_one : ∀ (l pre : List AV), chunks false 1 (pre ++ l) pre.length l.length = l
 | [], _ => rfl
 | x :: l, pre => by
  rw [List.length_cons, chunks]
  have h := chunks_one l (pre ++ [x])
  rw [List.append_assoc, List.length_append] at h
  have e : (pre ++ x :: l)[pre.length]? = some x := by simp
  show chunk false 1 (pre ++ x :: l) pre.length :: chunks false 1 (pre ++ ([x] ++ l)) (pre.length + [x].length) l.length = _
  rw [h]
  simp [chunk]
theorem strip_ps (hp : HpL) (l : List (List Pa)) : (l.map PS).map (strip hp) = l.map PS := by
 rw [List.map_map]
 rfl
theorem c30 (b : FB) (hv : VF b) : Ctr Tryz.prog 30 [FK b] (.sl 1 ((lrgL b).map PS) .sh) := by
 refine ctr_of_wp hmix Tryz.func30 m30r rfl ?_
 unfold v30r
 simp -failIfUnchanged (disch := first|omega|(simp<;>omega)|fail) only [go_sem,simprocAttr]
 refine wcall_in hmix Tryz.func55 m55r rfl ?_
 unfold v55r
 simp -failIfUnchanged (disch := first|omega|(simp<;>omega)|fail) only [go_sem,simprocAttr]
 refine wp_range' (wrangew fun l T hT => ?_)
 refine csem_of_wp hmix Tryz.func78 m78r rfl rfl ?_
 unfold v78r
 simp -failIfUnchanged (disch := first|omega|(simp<;>omega)|fail) only [go_sem,simprocAttr]
 have hY : YOK b l (outB b) T [(2, 0)] := by
  intro Xa out m tk post hol htk hts hpost
  refine hT Xa [PS m] _ tk post rfl ?_
  cases out with
  | nil =>
   unfold outB
   simp -failIfUnchanged (disch := first|omega|(simp<;>omega)|fail) only [go_sem,simprocAttr]
   refine hpost _ _ ?_ hts
   intro τ hτ
   obtain ⟨f, hp, t, p⟩ := τ
   dsimp only [stpL] at hτ ⊢
   subst hτ
   unfold outB
   simp -failIfUnchanged (disch := first|omega|(simp<;>omega)|fail) only [go_sem,simprocAttr]
   try simp
  | cons a r =>
   have hd : decide ((0 : Int) < ((r.length + 1 : Nat) : Int)) = true := decide_eq_true (by omega)
   have hd2 : decide (((r.length + 1 : Nat) : Int) = 0) = false := decide_eq_false (by omega)
   unfold stpL at hpost
   unfold outB
   simp -failIfUnchanged (disch := first|omega|(simp<;>omega)|fail) only [go_sem,simprocAttr, hd]
   refine wcond_dec (fun h1 => ?_) (fun h1 => ?_)
   ·have h1' : a.length < m.length := by omega
    simp only [if_pos h1'] at hpost
    have hne : ¬ a.length = m.length := by omega
    simp -failIfUnchanged (disch := first|omega|(simp<;>omega)|fail) only [go_sem,simprocAttr, hne]
    refine ⟨by simp, hpost _ _ ?_ hts⟩
    intro τ hτ
    obtain ⟨f, hp, t, p⟩ := τ
    dsimp only at hτ
    subst hτ
    unfold outB
    simp -failIfUnchanged (disch := first|omega|(simp<;>omega)|fail) only [go_sem,simprocAttr]
    try simp
   ·have h1' : ¬ a.length < m.length := by omega
    simp only [if_neg h1'] at hpost
    simp -failIfUnchanged (disch := first|omega|(simp<;>omega)|fail) only [go_sem,simprocAttr, hd2]
    refine wcond_dec (fun h2 => ?_) (fun h2 => ?_)
    ·have h2' : m.length = a.length := by omega
     simp only [if_pos h2'] at hpost
     have hol' : r.length + 1 < 4000000000 := by simpa using hol
     have hca : a :: r ++ [m] = a :: (r ++ [m]) := rfl
     rw [hca] at hpost
     simp -failIfUnchanged (disch := first|omega|(simp<;>omega)|fail) only [go_sem,simprocAttr]
     refine hpost _ _ ?_ hts
     intro τ hτ
     obtain ⟨f, hp, t, p⟩ := τ
     dsimp only at hτ
     subst hτ
     have hsc := scopes_ps ⟨f, hpO b l (outB b (a :: (r ++ [m]))), t, p⟩ (a :: (r ++ [m]))
     dsimp only [outB] at hsc ⊢
     have hlr : (r ++ [m]).length = r.length + 1 := by simp
     have hmr : (a :: (r ++ [m])).map PS = PS a :: (r.map PS ++ [PS m]) := by simp
     rw [hlr, hmr] at hsc ⊢
     simp -failIfUnchanged (disch := first|omega|(simp<;>omega)|fail) only [go_sem,simprocAttr]
     exact hsc.2
    ·have h2' : ¬ m.length = a.length := by omega
     simp only [if_neg h2'] at hpost
     simp -failIfUnchanged (disch := first|omega|(simp<;>omega)|fail) only [go_sem,simprocAttr]
     refine hpost _ _ ?_ hts
     exact outB_self b l (a :: r)
 have hw := c79w b hv l (outB b) T [(2, 0)] hY (fun o => outB_new b o (by omega) (by omega) (by omega)) (outB_self b l) b.ones.length [] 0 [] 4000 [(2, 0)]
  [[(5, AV.clw 79 [] [AV.ptr 1001 0, AV.ptr 2002 0, AV.ptr 2003 0]), (3, AV.ptr 2003 0)], [(3, AV.ptr 3 0), (6, AV.clw 78 [] [AV.ptr 1001 0])]]
  (Nat.le_refl _) (by have := Nat.pow_le_pow_right (n := 6) (by omega) hv.n1; simp; omega) (by simp) bits_0 ⟨rfl, trivial⟩ ⟨rfl, trivial⟩ (fun i hi => by simp only [getT]; rw [if_neg (by omega)]) (fun out' τ hτ hτk => by
   obtain ⟨f, hp, t, p⟩ := τ
   dsimp only at hτ
   subst hτ
   cases out' with
   | nil => unfold outB; simp -failIfUnchanged (disch := first|omega|(simp<;>omega)|fail) only [go_sem,simprocAttr]
   | cons a r => unfold outB; simp -failIfUnchanged (disch := first|omega|(simp<;>omega)|fail) only [go_sem,simprocAttr]; try simp)
 rw [Nat.sub_self] at hw
 refine wcalli (csem_sh hw) ?_
 rintro r hp' tk' pd' ⟨rfl, g1, g2, rfl⟩
 change LH hp' (hpO b l (outB b (lrgL b))) at g1
 generalize lrgL b = M at g1 ⊢
 have g := g1 ⟨[], _, [], none⟩ rfl
 cases M with
 | nil =>
  unfold outB at g
  have g3 : getB hp' 3 = some ⟨[.sl 1 [] .full], false⟩ := g.2.2.2.2.2.2.1
  simp -failIfUnchanged (disch := first|omega|(simp<;>omega)|fail) only [go_sem,simprocAttr, g3]
 | cons a r =>
  unfold outB at g
  have gK : getB hp' (K 35 a.length r.length) = some ⟨(a :: r).map PS, false⟩ := g.2.2.2.2.2.2.1
  have g3 : getB hp' 3 = some ⟨[.gsl 35 a.length r.length 1 (r.length + 1) false], false⟩ := g.2.2.2.2.2.2.2.2.1
  simp -failIfUnchanged (disch := first|omega|(simp<;>omega)|fail) only [go_sem,simprocAttr, g3]
  rw [gK]
  dsimp only
  rw [getB_setB, if_pos rfl]
  dsimp only
  rw [strip_ps]
  have hl1 : ((a :: r).map PS).length = r.length + 1 := by simp
  have hch := chunks_one ((a :: r).map PS) []
  rw [List.nil_append, List.length_nil, hl1] at hch
  rw [hl1, if_pos (Nat.le_refl _), hch]
  exact ⟨rfl, rfl⟩
end Go.Proofs.YtggnmemkhookdaaGreatDoor.Fi

set_option linter.unusedSimpArgs false
set_option linter.unusedVariables false
set_option linter.unnecessarySimpa false
namespace Go.Proofs.YtggnmemkhookdaaGreatDoor.Fi
open Go Go.V Kn
theorem stpL_ne (out : List (List Pa)) (m : List Pa) : stpL out m ≠ [] := by
 unfold stpL
 split
 ·simp
 ·split
  ·simp
  ·split <;> simp
theorem fold_ne : ∀ (l out : List (List Pa)), (out ≠ [] ∨ l ≠ []) → l.foldl stpL out ≠ []
 | [], out, h => by simpa using h
 | m :: l, out, _ => by
  rw [List.foldl_cons]
  exact fold_ne l _ (.inl (stpL_ne out m))
theorem mtF_ne (b : FB) : ∀ (k : Nat) (m : List Pa), mtF b k m ≠ []
 | 0, _ => by simp [mtF]
 | k + 1, m => by
  rw [mtF]
  intro h
  exact mtF_ne b k m (List.append_eq_nil_iff.1 h).1
theorem lrgL_ne (b : FB) : lrgL b ≠ [] := fold_ne _ _ (.inr (mtF_ne b _ _))
def fstM (b : FB) : List Pa := (lrgL b)[0]?.getD default
def fewI (b : FB) : Int := (b.ones.length : Int) + b.others.length - (fstM b).length
theorem lrgL_mem_len {b : FB} : ∀ (l out : List (List Pa)) (B : Nat), (∀ x ∈ l, x.length ≤ B) → (∀ x ∈ out, x.length ≤ B) → ∀ x ∈ l.foldl stpL out, x.length ≤ B
 | [], out, B, _, h, x, hx => h x hx
 | m :: l, out, B, h1, h2, x, hx => by
  rw [List.foldl_cons] at hx
  refine lrgL_mem_len (b := b) l (stpL out m) B (fun y hy => h1 y (by simp [hy])) ?_ x hx
  intro y hy
  have hm := h1 m (by simp)
  unfold stpL at hy
  split at hy
  ·simp at hy; rw [hy]; exact hm
  ·rename_i a r
   split at hy
   ·simp at hy; rw [hy]; exact hm
   ·split at hy
    ·rcases List.mem_append.1 hy with hy | hy
     ·exact h2 y hy
     ·simp at hy; rw [hy]; exact hm
    ·exact h2 y hy
theorem mtF_mlen (b : FB) : ∀ (k : Nat) (m : List Pa), ∀ x ∈ mtF b k m, x.length ≤ m.length + k
 | 0, m, x, hx => by simp [mtF] at hx; rw [hx]; omega
 | k + 1, m, x, hx => by
  rw [mtF] at hx
  rcases List.mem_append.1 hx with hx | hx
  ·have := mtF_mlen b k m x hx; omega
  ·obtain ⟨o, _, hx⟩ := List.mem_flatMap.1 hx
   split at hx
   ·have := mtF_mlen b k _ x hx
    simp at this
    omega
   ·simp at hx
theorem fst_len {b : FB} (hv : VF b) : (fstM b).length ≤ 5 := by
 have h1 := lrgL_ne b
 have h2 : fstM b ∈ lrgL b := by
  unfold fstM
  have : 0 < (lrgL b).length := List.length_pos_iff.2 h1
  rw [List.getElem?_eq_getElem this]
  exact List.getElem_mem _
 have h3 := lrgL_mem_len (b := b) (mtF b b.ones.length []) [] b.ones.length (fun x hx => by have := mtF_mlen b _ _ x hx; simpa using this) (fun x hx => by simp at hx) (fstM b) h2
 have := hv.n1
 omega
theorem c29 (b : FB) (hv : VF b) : Ctr Tryz.prog 29 [FK b] (.int (fewI b)) := by
 refine ctr_of_wp hmix Tryz.func29 m29 rfl ?_
 unfold v29
 have k1 := c30 b hv
 have hne := lrgL_ne b
 have hf : (lrgL b)[0]?.getD default = fstM b := rfl
 have hl := fst_len hv
 have hn1 := hv.n1
 have hn2 := hv.n2
 have h0 : 0 < (lrgL b).length := List.length_pos_iff.2 hne
 generalize lrgL b = M at k1 hf h0
 have e1 : (M.map PS)[0]?.getD .nul = PS (fstM b) := by
  rw [List.getElem?_eq_getElem h0] at hf
  have hf2 : M[0] = fstM b := hf
  simp [h0, hf2]
 simp -failIfUnchanged (disch := first|omega|(simp<;>omega)|fail) only [go_sem,simprocAttr]
 refine wcall k1 ?_
 simp -failIfUnchanged (disch := first|omega|(simp<;>omega)|fail) only [go_sem,simprocAttr, e1, hf]
 simp [fewI]
def fewR (b : FB) : AV := .tup [.int (if chkB b then fewI b else 0), .int (errF b)]
theorem c10 (b : FB) (hs : SmF b) : Ctr Tryz.prog 10 [FK b] (fewR b) := by
 refine ctr_of_wp hmix Tryz.func10 m10 rfl ?_
 unfold v10 fewR
 have k1 := c28 b hs
 unfold errF at k1 ⊢
 cases hc : chkB b with
 | false =>
  rw [hc] at k1
  simp -failIfUnchanged (disch := first|omega|(simp<;>omega)|fail) only [go_sem,simprocAttr]
  refine wcall k1 ?_
  simp -failIfUnchanged (disch := first|omega|(simp<;>omega)|fail) only [go_sem,simprocAttr]
  try simp
 | true =>
  rw [hc] at k1
  simp -failIfUnchanged (disch := first|omega|(simp<;>omega)|fail) only [go_sem,simprocAttr]
  refine wcall k1 ?_
  simp -failIfUnchanged (disch := first|omega|(simp<;>omega)|fail) only [go_sem,simprocAttr]
  refine wcall (c29 b (vf_of hc)) ?_
  simp -failIfUnchanged (disch := first|omega|(simp<;>omega)|fail) only [go_sem,simprocAttr]
  try simp
end Go.Proofs.YtggnmemkhookdaaGreatDoor.Fi

set_option linter.unusedSimpArgs false
set_option linter.unusedVariables false
set_option linter.unnecessarySimpa false
namespace Go.Proofs.YtggnmemkhookdaaGreatDoor.Fi
open Go Go.V Kn
theorem fst_at {b : FB} : ((lrgL b).map PS)[0]?.getD .nul = PS (fstM b) := by
 have h0 : 0 < (lrgL b).length := List.length_pos_iff.2 (lrgL_ne b)
 have hf2 : (lrgL b)[0] = fstM b := by unfold fstM; rw [List.getElem?_eq_getElem h0]; rfl
 simp [h0, hf2]
end Go.Proofs.YtggnmemkhookdaaGreatDoor.Fi

set_option linter.unusedSimpArgs false
set_option linter.unusedVariables false
set_option linter.unnecessarySimpa false
namespace Go.Proofs.YtggnmemkhookdaaGreatDoor.Fi
open Go Go.V Kn
structure GM (b : FB) (n : Nat) (m : List Pa) : Prop where
 p : ∀ p ∈ m, (0 ≤ p.one ∧ p.one < (n : Int)) ∧ (0 ≤ p.other ∧ p.other < (b.others.length : Int)) ∧ comB b.late (one b p.one.toNat) (oth b p.other.toNat) = true
 o : m.Pairwise fun p q => p.one < q.one
 d : m.Pairwise fun p q => p.other ≠ q.other
theorem gm_nil (b : FB) (n : Nat) : GM b n [] := ⟨fun p h => by simp at h, List.Pairwise.nil, List.Pairwise.nil⟩
theorem gm_mono {b : FB} {n n' : Nat} {m : List Pa} (h : GM b n m) (hn : n ≤ n') : GM b n' m := ⟨fun p hp => by have := h.p p hp; exact ⟨by omega, this.2⟩, h.o, h.d⟩
theorem used_iff {m : List Pa} {o : Nat} : usedB m o = false ↔ ∀ p ∈ m, p.other ≠ (o : Int) := by
 unfold usedB
 rw [List.any_eq_false]
 simp
theorem gm_snoc {b : FB} {q o : Nat} {m : List Pa} (h : GM b q m) (ho : o < b.others.length) (hu : usedB m o = false) (hc : comB b.late (one b q) (oth b o) = true) : GM b (q + 1) (m ++ [⟨(q : Int), (o : Int)⟩]) := by
 refine ⟨fun p hp => ?_, ?_, ?_⟩
 ·rcases List.mem_append.1 hp with hp | hp
  ·have := h.p p hp
   exact ⟨by omega, this.2⟩
  ·simp at hp
   subst hp
   exact ⟨by dsimp only; omega, by dsimp only; omega, by simpa using hc⟩
 ·rw [List.pairwise_append]
  exact ⟨h.o, List.pairwise_singleton _ _, fun p hp q hq => by simp at hq; subst hq; have := h.p p hp; dsimp only; omega⟩
 ·rw [List.pairwise_append]
  exact ⟨h.d, List.pairwise_singleton _ _, fun p hp q hq => by simp at hq; subst hq; exact used_iff.1 hu p hp⟩
theorem mtF_good {b : FB} : ∀ (k : Nat) (m : List Pa), k ≤ b.ones.length → GM b (b.ones.length - k) m → ∀ t ∈ mtF b k m, GM b b.ones.length t ∧ ∃ s, t = m ++ s ∧ ∀ p ∈ s, ((b.ones.length - k : Nat) : Int) ≤ p.one
 | 0, m, _, hm, t, ht => by
  simp [mtF] at ht
  subst ht
  exact ⟨by simpa using hm, [], by simp, fun p hp => by simp at hp⟩
 | k + 1, m, hk, hm, t, ht => by
  have hq : b.ones.length - k = b.ones.length - (k + 1) + 1 := by omega
  rw [mtF] at ht
  rcases List.mem_append.1 ht with ht | ht
  ·obtain ⟨h1, s, h2, h3⟩ := mtF_good k m (by omega) (gm_mono hm (by omega)) t ht
   exact ⟨h1, s, h2, fun p hp => by have := h3 p hp; omega⟩
  ·obtain ⟨o, ho, ht⟩ := List.mem_flatMap.1 ht
   have ho := List.mem_range.1 ho
   split at ht
   ·rename_i hc
    have hg := gm_snoc hm ho hc.1 hc.2
    rw [← hq] at hg
    obtain ⟨h1, s, h2, h3⟩ := mtF_good k _ (by omega) hg t ht
    refine ⟨h1, ⟨((b.ones.length - (k + 1) : Nat) : Int), (o : Int)⟩ :: s, by rw [h2]; simp, fun p hp => ?_⟩
    rcases List.mem_cons.1 hp with rfl | hp
    ·exact Int.le_refl _
    ·have := h3 p hp; omega
   ·simp at ht
theorem mtF_all {b : FB} : ∀ (k : Nat) (m s : List Pa), k ≤ b.ones.length → GM b b.ones.length (m ++ s) → (∀ p ∈ s, ((b.ones.length - k : Nat) : Int) ≤ p.one) → m ++ s ∈ mtF b k m
 | 0, m, s, _, hg, hs => by
  cases s with
  | nil => simp [mtF]
  | cons p r =>
   have h1 := hs p (by simp)
   have h2 := (hg.p p (by simp)).1
   omega
 | k + 1, m, s, hk, hg, hs => by
  rw [mtF, List.mem_append]
  cases s with
  | nil => exact .inl (mtF_all k m [] (by omega) hg (fun p hp => by simp at hp))
  | cons p r =>
   have hp := hg.p p (by simp)
   have hp1 := hs p (by simp)
   have hr : ∀ x ∈ r, p.one < x.one := by
    have h1 := (List.pairwise_append.1 hg.o).2.1
    exact (List.pairwise_cons.1 h1).1
   by_cases e : p.one = ((b.ones.length - (k + 1) : Nat) : Int)
   ·right
    rw [List.mem_flatMap]
    have hpe : p = ⟨((b.ones.length - (k + 1) : Nat) : Int), ((p.other.toNat : Nat) : Int)⟩ := by
     cases p
     simp only at e hp ⊢
     rw [e]
     congr 1
     omega
    refine ⟨p.other.toNat, List.mem_range.2 (by omega), ?_⟩
    have hu : usedB m p.other.toNat = false := by
     rw [used_iff]
     intro x hx
     have h1 := (List.pairwise_append.1 hg.d).2.2 x hx p (by simp)
     have : ((p.other.toNat : Nat) : Int) = p.other := by omega
     rw [this]
     exact h1
    have hc := hp.2.2
    rw [show p.one.toNat = b.ones.length - (k + 1) by omega] at hc
    rw [if_pos ⟨hu, hc⟩, ← hpe]
    have h2 : m ++ p :: r = (m ++ [p]) ++ r := by simp
    rw [h2]
    rw [h2] at hg
    exact mtF_all k (m ++ [p]) r (by omega) hg (fun x hx => by have := hr x hx; omega)
   ·left
    refine mtF_all k m (p :: r) (by omega) hg (fun x hx => ?_)
    rcases List.mem_cons.1 hx with rfl | hx
    ·omega
    ·have := hr x hx; omega
theorem mem_mtF {b : FB} {t : List Pa} : t ∈ mtF b b.ones.length [] ↔ GM b b.ones.length t := by
 constructor
 ·intro h
  exact (mtF_good b.ones.length [] (Nat.le_refl _) (gm_nil b _) t h).1
 ·intro h
  have := mtF_all (b := b) b.ones.length [] t (Nat.le_refl _) (by simpa using h) (fun p hp => by have := (h.p p hp).1; omega)
  simpa using this
end Go.Proofs.YtggnmemkhookdaaGreatDoor.Fi

set_option linter.unusedSimpArgs false
set_option linter.unusedVariables false
set_option linter.unnecessarySimpa false
namespace Go.Proofs.YtggnmemkhookdaaGreatDoor.Fi
open Go Go.V Kn
theorem fold_spec : ∀ (l out : List (List Pa)) (L : Nat), out ≠ [] → (∀ x ∈ out, x.length = L) →
  ∃ M, (∀ x ∈ out ++ l, x.length ≤ M) ∧ (∃ x ∈ out ++ l, x.length = M) ∧ l.foldl stpL out = (out ++ l).filter fun x => decide (x.length = M)
 | [], out, L, hne, hL => by
  refine ⟨L, fun x hx => by have := hL x (by simpa using hx); omega, ?_, ?_⟩
  ·cases out with
   | nil => exact absurd rfl hne
   | cons a r => exact ⟨a, by simp, hL a (by simp)⟩
  ·rw [List.foldl_nil, List.append_nil]
   exact (List.filter_eq_self.2 fun x hx => decide_eq_true (hL x hx)).symm
 | m :: l, out, L, hne, hL => by
  rw [List.foldl_cons]
  cases out with
  | nil => exact absurd rfl hne
  | cons a r =>
   have ha := hL a (by simp)
   by_cases h1 : a.length < m.length
   ·have hs : stpL (a :: r) m = [m] := by simp [stpL, h1]
    rw [hs]
    obtain ⟨M, q1, q2, q3⟩ := fold_spec l [m] m.length (by simp) (fun x hx => by simp at hx; rw [hx])
    have hm := q1 m (by simp)
    refine ⟨M, fun x hx => ?_, ?_, ?_⟩
    ·rcases List.mem_append.1 hx with hx | hx
     ·have := hL x hx; omega
     ·exact q1 x (by simpa using hx)
    ·obtain ⟨x, hx, e⟩ := q2
     exact ⟨x, List.mem_append.2 (.inr (by simpa using hx)), e⟩
    ·rw [q3, List.filter_append (l₁ := a :: r)]
     have e : ((a :: r).filter fun x => decide (x.length = M)) = [] := by
      rw [List.filter_eq_nil_iff]
      intro x hx
      have := hL x hx
      simp only [decide_eq_true_eq]
      omega
     rw [e, List.nil_append]
     rfl
   ·by_cases h2 : m.length = a.length
    ·have hs : stpL (a :: r) m = a :: r ++ [m] := by simp [stpL, h1, h2]
     rw [hs]
     obtain ⟨M, q1, q2, q3⟩ := fold_spec l (a :: r ++ [m]) L (by simp) (fun x hx => by
      rcases List.mem_append.1 hx with hx | hx
      ·exact hL x hx
      ·simp at hx; rw [hx]; omega)
     have e : a :: r ++ [m] ++ l = a :: r ++ m :: l := by simp
     rw [e] at q1 q2 q3
     exact ⟨M, q1, q2, q3⟩
    ·have hs : stpL (a :: r) m = a :: r := by simp [stpL, h1, h2]
     rw [hs]
     obtain ⟨M, q1, q2, q3⟩ := fold_spec l (a :: r) L (by simp) hL
     have haM := q1 a (by simp)
     refine ⟨M, fun x hx => ?_, ?_, ?_⟩
     ·rcases List.mem_append.1 hx with hx | hx
      ·exact q1 x (List.mem_append.2 (.inl hx))
      ·rcases List.mem_cons.1 hx with rfl | hx
       ·omega
       ·exact q1 x (List.mem_append.2 (.inr hx))
     ·obtain ⟨x, hx, e⟩ := q2
      refine ⟨x, ?_, e⟩
      rcases List.mem_append.1 hx with hx | hx
      ·exact List.mem_append.2 (.inl hx)
      ·exact List.mem_append.2 (.inr (by simp [hx]))
     ·rw [q3, List.filter_append, List.filter_append]
      congr 1
      have : decide (m.length = M) = false := decide_eq_false (by omega)
      rw [List.filter_cons, this]
      rfl
def allM (b : FB) : List (List Pa) := mtF b b.ones.length []
theorem lrgL_spec (b : FB) : ∃ M, (∀ x ∈ allM b, x.length ≤ M) ∧ (∃ x ∈ allM b, x.length = M) ∧ lrgL b = (allM b).filter fun x => decide (x.length = M) := by
 have hne := mtF_ne b b.ones.length []
 unfold lrgL allM
 cases h : mtF b b.ones.length [] with
 | nil => exact absurd h hne
 | cons m l =>
  rw [List.foldl_cons]
  exact fold_spec l [m] m.length (by simp) (fun x hx => by simp at hx; rw [hx])
theorem fst_most (b : FB) : fstM b ∈ lrgL b ∧ (∀ x ∈ allM b, x.length ≤ (fstM b).length) ∧ lrgL b = (allM b).filter fun x => decide (x.length = (fstM b).length) := by
 obtain ⟨M, q1, q2, q3⟩ := lrgL_spec b
 have h0 : 0 < (lrgL b).length := List.length_pos_iff.2 (lrgL_ne b)
 have hm : fstM b ∈ lrgL b := by
  unfold fstM
  rw [List.getElem?_eq_getElem h0]
  exact List.getElem_mem _
 have hm2 := hm
 rw [q3, List.mem_filter] at hm2
 have e : (fstM b).length = M := of_decide_eq_true hm2.2
 rw [e]
 exact ⟨hm, q1, q3⟩
theorem mem_lrg {b : FB} {t : List Pa} : t ∈ lrgL b ↔ GM b b.ones.length t ∧ ∀ x, GM b b.ones.length x → x.length ≤ t.length := by
 obtain ⟨h1, h2, h3⟩ := fst_most b
 have hall : ∀ x, x ∈ allM b ↔ GM b b.ones.length x := fun x => mem_mtF
 rw [h3, List.mem_filter, hall, decide_eq_true_eq]
 constructor
 ·rintro ⟨a1, a2⟩
  exact ⟨a1, fun x hx => by have := h2 x ((hall x).2 hx); omega⟩
 ·rintro ⟨a1, a2⟩
  refine ⟨a1, ?_⟩
  have k1 := h2 t ((hall t).2 a1)
  have k2 : GM b b.ones.length (fstM b) := by
   rw [h3, List.mem_filter] at h1
   exact (hall _).1 h1.1
  have k3 := a2 _ k2
  omega
end Go.Proofs.YtggnmemkhookdaaGreatDoor.Fi

set_option linter.unusedSimpArgs false
set_option linter.unusedVariables false
set_option linter.unnecessarySimpa false
namespace Go.Proofs.YtggnmemkhookdaaGreatDoor.Fi
open Go Go.V Kn
theorem gm_at {b : FB} {n : Nat} {t : List Pa} (h : GM b n t) {k : Nat} (hk : k < t.length) : ∃ i j : Nat, t[k]?.getD default = ⟨(i : Int), (j : Int)⟩ ∧ i < n ∧ j < b.others.length ∧ comB b.late (one b i) (oth b j) = true := by
 obtain ⟨h1, h2, h3⟩ := h.p _ (mem_getD hk)
 obtain ⟨x, hx⟩ : ∃ x, t[k]?.getD default = x := ⟨_, rfl⟩
 rw [hx] at h1 h2 h3
 obtain ⟨p, q⟩ := x
 dsimp only at h1 h2 h3
 refine ⟨p.toNat, q.toNat, ?_, by omega, by omega, h3⟩
 rw [hx]
 congr 1 <;> omega
theorem lrg_small {b : FB} (hv : VF b) : (lrgL b).length < 4000000000 := by
 have h1 := fold_len (mtF b b.ones.length []) []
 have h2 := mtF_len hv.n2 b.ones.length []
 have h3 := Nat.pow_le_pow_right (n := 6) (by omega) hv.n1
 unfold lrgL
 simp at h1
 omega
end Go.Proofs.YtggnmemkhookdaaGreatDoor.Fi

set_option linter.unusedSimpArgs false
set_option linter.unusedVariables false
set_option linter.unnecessarySimpa false
namespace Go.Proofs.YtggnmemkhookdaaGreatDoor.Fi
open Go Go.V Kn
end Go.Proofs.YtggnmemkhookdaaGreatDoor.Fi

set_option linter.unusedSimpArgs false
set_option linter.unusedVariables false
set_option linter.unnecessarySimpa false
namespace Go.Proofs.YtggnmemkhookdaaGreatDoor.Fi
open Go Go.V Kn
end Go.Proofs.YtggnmemkhookdaaGreatDoor.Fi

set_option linter.unusedSimpArgs false
set_option linter.unusedVariables false
set_option linter.unnecessarySimpa false
namespace Go.Proofs.YtggnmemkhookdaaGreatDoor.Fi
open Go Go.V Kn
end Go.Proofs.YtggnmemkhookdaaGreatDoor.Fi

set_option linter.unusedSimpArgs false
set_option linter.unusedVariables false
set_option linter.unnecessarySimpa false
namespace Go.Proofs.YtggnmemkhookdaaGreatDoor.Fi
open Go Go.V Kn
theorem numL_bd {base : Int} (hb : 2 ≤ base ∧ base ≤ 10) : ∀ (l : List Int) (k : Nat) (n : Int), (∀ d ∈ l, 0 ≤ d ∧ d < base) → 0 ≤ n → n < ((10 ^ k : Nat) : Int) → k + l.length ≤ 4 →
  0 ≤ l.foldl (fun n d => w64 (w64 (n * base) + d)) n ∧ l.foldl (fun n d => w64 (w64 (n * base) + d)) n < ((10 ^ (k + l.length) : Nat) : Int)
 | [], k, n, _, h1, h2, _ => ⟨h1, h2⟩
 | d :: r, k, n, hd, h1, h2, hk => by
  simp only [List.length_cons] at hk
  have h10 : 10 ^ k ≤ 1000 := by
   have : k = 0 ∨ k = 1 ∨ k = 2 ∨ k = 3 := by omega
   rcases this with rfl | rfl | rfl | rfl <;> decide
  obtain ⟨d1, d2⟩ := hd d (by simp)
  have m1 : 0 ≤ n * base := Int.mul_nonneg h1 (by omega)
  have m2 : n * base ≤ n * 10 := Int.mul_le_mul_of_nonneg_left hb.2 h1
  have e1 : w64 (n * base) = n * base := w64_id (by omega)
  have e2 : w64 (n * base + d) = n * base + d := w64_id (by omega)
  have h3 : n * base + d < ((10 ^ (k + 1) : Nat) : Int) := by
   rw [Nat.pow_succ]
   omega
  have := numL_bd hb r (k + 1) (n * base + d) (fun x hx => hd x (by simp [hx])) (by omega) h3 (by omega)
  simp only [List.foldl_cons, e1, e2, List.length_cons]
  rw [show k + (r.length + 1) = k + 1 + r.length by omega]
  exact this
def le2 (base : Int) : List Int → List Int → Prop
 | [], [] => True
 | a :: x, b :: y => (0 ≤ a ∧ a ≤ b ∧ b < base) ∧ le2 base x y
 | _, _ => False
theorem numL_mono {base : Int} (hb : 2 ≤ base ∧ base ≤ 10) : ∀ (x y : List Int) (k : Nat) (n m : Int), le2 base x y → 0 ≤ n → n ≤ m → m < ((10 ^ k : Nat) : Int) → k + x.length ≤ 4 →
  x.foldl (fun n d => w64 (w64 (n * base) + d)) n ≤ y.foldl (fun n d => w64 (w64 (n * base) + d)) m
 | [], [], _, _, _, _, _, h, _, _ => h
 | a :: x, c :: y, k, n, m, ⟨hac, hxy⟩, hn, hnm, hm, hk => by
  simp only [List.length_cons] at hk
  have h10 : 10 ^ k ≤ 1000 := by
   have : k = 0 ∨ k = 1 ∨ k = 2 ∨ k = 3 := by omega
   rcases this with rfl | rfl | rfl | rfl <;> decide
  have n1 : 0 ≤ n * base := Int.mul_nonneg hn (by omega)
  have n2 : n * base ≤ m * base := Int.mul_le_mul_of_nonneg_right hnm (by omega)
  have n3 : m * base ≤ m * 10 := Int.mul_le_mul_of_nonneg_left hb.2 (by omega)
  have e1 : w64 (n * base) = n * base := w64_id (by omega)
  have e2 : w64 (n * base + a) = n * base + a := w64_id (by omega)
  have e3 : w64 (m * base) = m * base := w64_id (by omega)
  have e4 : w64 (m * base + c) = m * base + c := w64_id (by omega)
  simp only [List.foldl_cons, e1, e2, e3, e4]
  exact numL_mono hb x y (k + 1) _ _ hxy (by omega) (by omega) (by rw [Nat.pow_succ]; omega) (by omega)
theorem le2_lh {base : Int} : ∀ (x : List Sp), (∀ s ∈ x, 0 ≤ s.lo ∧ s.lo ≤ s.hi ∧ s.hi < base) → le2 base (x.map fun s => s.lo) (x.map fun s => s.hi)
 | [], _ => trivial
 | s :: x, h => ⟨h s (by simp), le2_lh x fun s hs => h s (by simp [hs])⟩
theorem ends_bd {b : FB} (hv : VF b) {x : List Sp} (hx : VC1 b x) : 0 ≤ (endsL b.base x).lo ∧ (endsL b.base x).lo ≤ (endsL b.base x).hi ∧ (endsL b.base x).hi < 10000 := by
 have hn := hx.n
 have hp := hv.pl
 have hbb := hv.bs
 rw [ends_num]
 have p4 : ∀ k, k ≤ 4 → ((10 ^ k : Nat) : Int) ≤ 10000 := fun k hk => by
  have : k = 0 ∨ k = 1 ∨ k = 2 ∨ k = 3 ∨ k = 4 := by omega
  rcases this with rfl | rfl | rfl | rfl | rfl <;> decide
 have b1 := numL_bd hbb (x.map fun s => s.lo) 0 0 (fun d hd => by obtain ⟨s, hs, rfl⟩ := List.mem_map.1 hd; have := hx.s s hs; omega) (by omega) (by decide) (by rw [List.length_map]; omega)
 have b2 := numL_bd hbb (x.map fun s => s.hi) 0 0 (fun d hd => by obtain ⟨s, hs, rfl⟩ := List.mem_map.1 hd; have := hx.s s hs; omega) (by omega) (by decide) (by rw [List.length_map]; omega)
 have b3 := numL_mono hbb _ _ 0 0 0 (le2_lh x hx.s) (by omega) (by omega) (by decide) (by rw [List.length_map]; omega)
 have b4 := p4 (0 + (x.map fun s => s.hi).length) (by rw [List.length_map]; omega)
 unfold numL
 dsimp only at *
 omega
end Go.Proofs.YtggnmemkhookdaaGreatDoor.Fi

set_option linter.unusedSimpArgs false
set_option linter.unusedVariables false
set_option linter.unnecessarySimpa false
namespace Go.Proofs.YtggnmemkhookdaaGreatDoor.Fi
open Go Go.V Kn
def addS (a c : Sp) : Sp := ⟨a.lo + c.lo, a.hi + c.hi⟩
abbrev inO (t : List Pa) (i : Int) : Bool := t.any fun p => decide (p.one = i)
abbrev inT (t : List Pa) (j : Int) : Bool := t.any fun p => decide (p.other = j)
def ow1K (b : FB) (t : List Pa) (who : Int) : Nat → Sp
 | 0 => ⟨0, 0⟩
 | i + 1 => if inO t i = false ∧ (one b i).who = who then addS (ow1K b t who i) (endsL b.base (one b i).cord) else ow1K b t who i
def othS (b : FB) (t : List Pa) (j : Nat) : Sp :=
 if idxF (fun p : Pa => decide (p.other = (j : Int))) t < 0 then endsL b.base (oth b j).cord
 else pcI b (one b (t[(idxF (fun p : Pa => decide (p.other = (j : Int))) t).toNat]?.getD default).one.toNat) (oth b j)
def ow2K (b : FB) (t : List Pa) (who : Int) (s : Sp) : Nat → Sp
 | 0 => s
 | j + 1 => if (oth b j).who = who then addS (ow2K b t who s j) (othS b t j) else ow2K b t who s j
def owdI (b : FB) (t : List Pa) (who : Int) : Sp := ow2K b t who (ow1K b t who b.ones.length) b.others.length
theorem c59 (p : Pa) (i : Int) : Ctr Tryz.prog 59 [PA p, .ref 1 [.agg [.int i]] 0 0] (.bool (decide (p.one = i))) := by
 refine ctr_of_wp hmix Tryz.func59 m59 rfl ?_
 unfold v59
 simp -failIfUnchanged (disch := first|omega|(simp<;>omega)|fail) only [go_sem,simprocAttr]
 try simp
theorem c61 (p : Pa) (i : Int) : Ctr Tryz.prog 61 [PA p, .ref 1 [.agg [.int i]] 0 0] (.bool (decide (p.other = i))) := by
 refine ctr_of_wp hmix Tryz.func61 m61 rfl ?_
 unfold v61
 simp -failIfUnchanged (disch := first|omega|(simp<;>omega)|fail) only [go_sem,simprocAttr]
 try simp
structure SpB (s : Sp) (n : Int) : Prop where
 l : 0 ≤ s.lo
 m : s.lo ≤ s.hi
 h : s.hi ≤ 10000 * n
theorem spB_add {s t : Sp} {n : Int} (h1 : SpB s n) (h2 : 0 ≤ t.lo ∧ t.lo ≤ t.hi ∧ t.hi < 10000) : SpB (addS s t) (n + 1) := by
 have := h1.l
 have := h1.m
 have := h1.h
 unfold addS
 exact ⟨by dsimp only; omega, by dsimp only; omega, by dsimp only; omega⟩
theorem spB_le {s : Sp} {n m : Int} (h1 : SpB s n) (h : n ≤ m) : SpB s m := ⟨h1.l, h1.m, by have := h1.h; omega⟩
theorem ow1_bd {b : FB} (hv : VF b) (t : List Pa) (who : Int) : ∀ k : Nat, k ≤ b.ones.length → SpB (ow1K b t who k) k
 | 0, _ => ⟨Int.le_refl _, Int.le_refl _, by simp [ow1K]⟩
 | k + 1, hk => by
  have ih := ow1_bd hv t who k (by omega)
  unfold ow1K
  split
  ·exact spB_le (spB_add ih (ends_bd hv (one_v hv (by omega)).c)) (by omega)
  ·exact spB_le ih (by omega)
theorem com_v2 {b : FB} (hv : VF b) {i j : Nat} (hi : i < b.ones.length) (hj : j < b.others.length) (h : comB b.late (one b i) (oth b j) = true) : VC1 b (comL (one b i).cord (oth b j).cord) := by
 refine com_v (one_v hv hi).c (oth_v hv hj).c ?_
 unfold comB at h
 simp only [Bool.and_eq_true] at h
 exact h.2.2
theorem idx_at {α : Type} [Inhabited α] {p : α → Bool} {l : List α} (h : ¬ idxF p l < 0) : ∃ k : Nat, idxF p l = k ∧ k < l.length ∧ p (l[k]?.getD default) = true := by
 unfold idxF at h ⊢
 cases ha : l.any p with
 | false => rw [ha] at h; simp at h
 | true =>
  have hlt : l.findIdx p < l.length := List.findIdx_lt_length.2 (by simpa using ha)
  refine ⟨l.findIdx p, by simp, hlt, ?_⟩
  rw [List.getElem?_eq_getElem hlt]
  exact List.findIdx_getElem (w := hlt)
theorem oth_bd {b : FB} (hv : VF b) {t : List Pa} (hg : GM b b.ones.length t) {j : Nat} (hj : j < b.others.length) : 0 ≤ (othS b t j).lo ∧ (othS b t j).lo ≤ (othS b t j).hi ∧ (othS b t j).hi < 10000 := by
 unfold othS
 split
 ·exact ends_bd hv (oth_v hv hj).c
 ·rename_i h
  obtain ⟨k, h1, h2, h3⟩ := idx_at h
  obtain ⟨i, j', e, hi, hj', hc⟩ := gm_at hg h2
  rw [h1, Int.toNat_natCast, e]
  rw [e] at h3
  have h3 := of_decide_eq_true h3
  dsimp only at h3
  have : j' = j := by omega
  subst this
  simp only [Int.toNat_natCast]
  exact ends_bd hv (com_v2 hv hi hj' hc)
theorem ow2_bd {b : FB} (hv : VF b) {t : List Pa} (hg : GM b b.ones.length t) (who : Int) {s : Sp} {n : Int} (hs : SpB s n) : ∀ k : Nat, k ≤ b.others.length → SpB (ow2K b t who s k) (n + k)
 | 0, _ => by simpa [ow2K] using hs
 | k + 1, hk => by
  have ih := ow2_bd hv hg who hs k (by omega)
  unfold ow2K
  split
  ·exact spB_le (spB_add ih (oth_bd hv hg (by omega))) (by omega)
  ·exact spB_le ih (by omega)
theorem c56w {X : List FrL} {b : FB} (hb : bpB b = true) {l : List Sp} (hl : cdB b l = true) (he : 0 ≤ (endsL b.base l).lo ∧ (endsL b.base l).lo ≤ (endsL b.base l).hi ∧ (endsL b.base l).hi < 10000) (x : En) (who : Int) {o : Sp} {n : Int} (ho : SpB o n) (hn : n ≤ 100) {hp : HpL} {tk : TkL}
  (h4 : getB hp 4 = some ⟨FKc b, false⟩) (h5 : getB hp 5 = some ⟨[.int who], false⟩) (h7 : getB hp 7 = some ⟨[.int o.lo, .int o.hi], false⟩) (g5 : getB hp 1005 = none) (g7 : getB hp 1007 = none) :
  CSem ⟨Tryz.prog, X, none, false⟩ 56 [EN x, SS l, .ptr 5 0, .ptr 4 0, .ptr 7 0] hp tk none (fun _ hp' tk' pd' => ∃ p q, hp' = cond (decide (x.who = who)) ((1007, p) :: (1005, q) :: setB 7 ⟨[.int (addS o (endsL b.base l)).lo, .int (addS o (endsL b.base l)).hi], false⟩ hp) ((1005, q) :: hp) ∧ tk' = tk ∧ pd' = none) := by
 refine csem_of_wp hmix Tryz.func56 m56w rfl rfl ?_
 unfold v56w
 have := ho.l
 have := ho.m
 have := ho.h
 obtain ⟨g, hg⟩ : ∃ g, decide (x.who = who) = g := ⟨_, rfl⟩
 rw [hg]
 simp -failIfUnchanged (disch := first|omega|(simp<;>omega)|fail) only [go_sem,simprocAttr, g5, g7, h4, h5, h7, hg]
 cases g with
 | true =>
  simp -failIfUnchanged (disch := first|omega|(simp<;>omega)|fail) only [go_sem,simprocAttr, g5, g7, h4, h5, h7]
  refine wcall (c57 b hb l hl) ?_
  simp -failIfUnchanged (disch := first|omega|(simp<;>omega)|fail) only [go_sem,simprocAttr, g5, g7, h4, h5, h7]
  exact ⟨_, _, rfl⟩
 | false =>
  simp -failIfUnchanged (disch := first|omega|(simp<;>omega)|fail) only [go_sem,simprocAttr]
  exact ⟨⟨[], false⟩, _, rfl⟩
end Go.Proofs.YtggnmemkhookdaaGreatDoor.Fi

set_option linter.unusedSimpArgs false
set_option linter.unusedVariables false
set_option linter.unnecessarySimpa false
namespace Go.Proofs.YtggnmemkhookdaaGreatDoor.Fi
open Go Go.V Kn
theorem gm_len {b : FB} {t : List Pa} (hg : GM b b.ones.length t) : t.length ≤ b.ones.length := by
 have h2 := mtF_mlen b b.ones.length [] t (mem_mtF.2 hg)
 simpa using h2
theorem c33 (b : FB) (hv : VF b) (t : List Pa) (hg : GM b b.ones.length t) (who : Int) : Ctr Tryz.prog 33 [PS t, FK b, .int who] (SP (owdI b t who)) := by
 refine ctr_of_wp hmix Tryz.func33 m33w rfl ?_
 unfold v33w
 have htl := gm_len hg
 have hn1 := hv.n1
 have hn2 := hv.n2
 have hbp := bp_of hv
 simp -failIfUnchanged (disch := first|omega|(simp<;>omega)|fail) only [go_sem,simprocAttr]
 refine wp_loop' Nat (fun i => ⟨[(0, PS t), (4, .ptr 4 0), (6, .ptr 6 0), (7, .ptr 7 0), (8, .clw 56 [] [.ptr 5 0, .ptr 4 0, .ptr 7 0]), (18, ES b.ones), (19, .int b.ones.length), (20, .int i)],
   [(7, ⟨[.int (ow1K b t who i).lo, .int (ow1K b t who i).hi], false⟩), (6, ⟨[.int 0, .int 0], false⟩), (5, ⟨[.int who], false⟩), (4, ⟨FKc b, false⟩)], [], none⟩) (fun i => i ≤ b.ones.length) (fun i => b.ones.length - i) 0 (by simp) (by simp -failIfUnchanged (disch := first|omega|(simp<;>omega)|fail) only [go_sem,simprocAttr]; simp [ow1K]) ?_
 intro i hi
 have hi : i ≤ b.ones.length := hi
 simp -failIfUnchanged (disch := first|omega|(simp<;>omega)|fail) only [go_sem,simprocAttr]
 refine wcond_dec (fun h1 => ?_) (fun h1 => ?_)
 ·have hil : i < b.ones.length := by omega
  have k1 := c58 t 59 [.ref 1 [.agg [.int i]] 0 0] (fun p => decide (p.one = (i : Int))) (fun x _ => c59 x i) (by omega)
  have hgo : b.ones[i]?.getD default = one b i := rfl
  have hve := one_v hv hil
  have hst : ow1K b t who (i + 1) = if inO t i = false ∧ (one b i).who = who then addS (ow1K b t who i) (endsL b.base (one b i).cord) else ow1K b t who i := rfl
  have hbd := ow1_bd hv t who i (by omega)
  generalize ow1K b t who i = S at *
  simp -failIfUnchanged (disch := first|omega|(simp<;>omega)|fail) only [go_sem,simprocAttr, hgo]
  refine wcall k1 ?_
  obtain ⟨u, hu⟩ : ∃ u, inO t i = u := ⟨_, rfl⟩
  rw [hu] at hst
  have hu2 : (t.any fun p => decide (p.one = (i : Int))) = u := hu
  rw [hu2]
  cases u with
  | true =>
   rw [if_neg (by simp)] at hst
   simp -failIfUnchanged (disch := first|omega|(simp<;>omega)|fail) only [go_sem,simprocAttr]
   refine ⟨i + 1, by dsimp only; omega, by dsimp only; omega, ?_⟩
   dsimp only
   rw [hst]
   simp -failIfUnchanged (disch := first|omega|(simp<;>omega)|fail) only [go_sem,simprocAttr]
   try simp
   try exact ⟨rfl, rfl, rfl, rfl⟩
  | false =>
   simp -failIfUnchanged (disch := first|omega|(simp<;>omega)|fail) only [go_sem,simprocAttr]
   refine wcalli (c56w (n := i) hbp (cd_iff.2 hve.c) (ends_bd hv hve.c) (one b i) who hbd (by omega) rfl rfl rfl rfl rfl) ?_
   rintro r hp' tk' pd' ⟨u1, u2, rfl, rfl, rfl⟩
   by_cases hw : (one b i).who = who
   ·rw [if_pos ⟨rfl, hw⟩] at hst
    rw [decide_eq_true hw]
    simp -failIfUnchanged (disch := first|omega|(simp<;>omega)|fail) only [go_sem,simprocAttr]
    refine ⟨i + 1, by dsimp only; omega, by dsimp only; omega, ?_⟩
    dsimp only
    rw [hst]
    simp -failIfUnchanged (disch := first|omega|(simp<;>omega)|fail) only [go_sem,simprocAttr]
    try simp
    try exact ⟨rfl, rfl, rfl, rfl⟩
   ·rw [if_neg (fun x => hw x.2)] at hst
    rw [decide_eq_false hw]
    simp -failIfUnchanged (disch := first|omega|(simp<;>omega)|fail) only [go_sem,simprocAttr]
    refine ⟨i + 1, by dsimp only; omega, by dsimp only; omega, ?_⟩
    dsimp only
    rw [hst]
    simp -failIfUnchanged (disch := first|omega|(simp<;>omega)|fail) only [go_sem,simprocAttr]
    try simp
    try exact ⟨rfl, rfl, rfl, rfl⟩
 ·have e : i = b.ones.length := by omega
  subst e
  have hbd0 := ow1_bd hv t who b.ones.length (Nat.le_refl _)
  unfold owdI
  obtain ⟨S0, hS0⟩ : ∃ S0, ow1K b t who b.ones.length = S0 := ⟨_, rfl⟩
  rw [hS0] at hbd0 ⊢
  simp -failIfUnchanged (disch := first|omega|(simp<;>omega)|fail) only [go_sem,simprocAttr]
  refine wp_loop' Nat (fun i => ⟨[(0, PS t), (4, .ptr 4 0), (6, .ptr 6 0), (7, .ptr 7 0), (8, .clw 56 [] [.ptr 5 0, .ptr 4 0, .ptr 7 0]), (36, ES b.others), (37, .int b.others.length), (38, .int i)],
    [(7, ⟨[.int (ow2K b t who S0 i).lo, .int (ow2K b t who S0 i).hi], false⟩), (6, ⟨[.int 0, .int 0], false⟩), (5, ⟨[.int who], false⟩), (4, ⟨FKc b, false⟩)], [], none⟩) (fun i => i ≤ b.others.length) (fun i => b.others.length - i) 0 (by simp) (by simp -failIfUnchanged (disch := first|omega|(simp<;>omega)|fail) only [go_sem,simprocAttr]; simp [ow2K]) ?_
  intro i hi
  have hi : i ≤ b.others.length := hi
  simp -failIfUnchanged (disch := first|omega|(simp<;>omega)|fail) only [go_sem,simprocAttr]
  refine wcond_dec (fun h2 => ?_) (fun h2 => ?_)
  ·have hil : i < b.others.length := by omega
   have k1 := c60 t 61 [.ref 1 [.agg [.int i]] 0 0] (fun p => decide (p.other = (i : Int))) (fun x _ => c61 x i) (by omega)
   have hgo : b.others[i]?.getD default = oth b i := rfl
   have hve := oth_v hv hil
   have hst : ow2K b t who S0 (i + 1) = if (oth b i).who = who then addS (ow2K b t who S0 i) (othS b t i) else ow2K b t who S0 i := rfl
   have hbd := ow2_bd hv hg who hbd0 i (by omega)
   have hob := oth_bd hv hg hil
   have hot : othS b t i = if idxF (fun p : Pa => decide (p.other = (i : Int))) t < 0 then endsL b.base (oth b i).cord
    else pcI b (one b (t[(idxF (fun p : Pa => decide (p.other = (i : Int))) t).toNat]?.getD default).one.toNat) (oth b i) := rfl
   generalize ow2K b t who S0 i = S at *
   simp -failIfUnchanged (disch := first|omega|(simp<;>omega)|fail) only [go_sem,simprocAttr, hgo]
   refine wcall k1 ?_
   obtain ⟨x, hx⟩ : ∃ x, idxF (fun p : Pa => decide (p.other = (i : Int))) t = x := ⟨_, rfl⟩
   rw [hx] at hot ⊢
   simp -failIfUnchanged (disch := first|omega|(simp<;>omega)|fail) only [go_sem,simprocAttr]
   refine wcond_dec (fun h3 => ?_) (fun h3 => ?_)
   ·rw [if_pos h3] at hot
    rw [hot] at hst
    simp -failIfUnchanged (disch := first|omega|(simp<;>omega)|fail) only [go_sem,simprocAttr]
    refine wcalli (c56w (n := (b.ones.length : Int) + i) hbp (cd_iff.2 hve.c) (ends_bd hv hve.c) (oth b i) who hbd (by omega) rfl rfl rfl rfl rfl) ?_
    rintro r hp' tk' pd' ⟨u1, u2, rfl, rfl, rfl⟩
    by_cases hw : (oth b i).who = who
    ·rw [if_pos hw] at hst
     rw [decide_eq_true hw]
     simp -failIfUnchanged (disch := first|omega|(simp<;>omega)|fail) only [go_sem,simprocAttr]
     refine ⟨i + 1, by dsimp only; omega, by dsimp only; omega, ?_⟩
     dsimp only
     rw [hst]
     simp -failIfUnchanged (disch := first|omega|(simp<;>omega)|fail) only [go_sem,simprocAttr]
     try simp
     try exact ⟨rfl, rfl, rfl, rfl⟩
    ·rw [if_neg hw] at hst
     rw [decide_eq_false hw]
     simp -failIfUnchanged (disch := first|omega|(simp<;>omega)|fail) only [go_sem,simprocAttr]
     refine ⟨i + 1, by dsimp only; omega, by dsimp only; omega, ?_⟩
     dsimp only
     rw [hst]
     simp -failIfUnchanged (disch := first|omega|(simp<;>omega)|fail) only [go_sem,simprocAttr]
     try simp
     try exact ⟨rfl, rfl, rfl, rfl⟩
   ·rw [if_neg h3] at hot
    obtain ⟨k, e1, hk, hkp⟩ := idx_at (p := fun p : Pa => decide (p.other = (i : Int))) (l := t) (by rw [hx]; exact h3)
    rw [hx] at e1
    subst e1
    obtain ⟨p, q, e, hp, hq, hc⟩ := gm_at hg hk
    rw [e] at hkp
    have hkp := of_decide_eq_true hkp
    dsimp only at hkp
    have : q = i := by omega
    subst this
    rw [Int.toNat_natCast, e] at hot
    simp only [Int.toNat_natCast] at hot
    have hvp := one_v hv hp
    have k79 := c35 b.late (one b p) (oth b q) (by rw [both_len hvp.c hve.c]; exact Nat.le_refl _) (by have := hve.c.n; have := hv.pl; omega)
    have hgp : b.ones[p]?.getD default = one b p := rfl
    have hvc := com_v2 hv hp hq hc
    have hpb := ends_bd hv hvc
    have hpc : endsL b.base (comL (one b p).cord (oth b q).cord) = othS b t q := hot.symm
    simp -failIfUnchanged (disch := first|omega|(simp<;>omega)|fail) only [go_sem,simprocAttr, e, hgp]
    refine wcall k79 ?_
    simp -failIfUnchanged (disch := first|omega|(simp<;>omega)|fail) only [go_sem,simprocAttr]
    refine wcalli (c56w (n := (b.ones.length : Int) + q) hbp (cd_iff.2 hvc) hpb (oth b q) who hbd (by omega) rfl rfl rfl rfl rfl) ?_
    rintro r hp' tk' pd' ⟨u1, u2, rfl, rfl, rfl⟩
    by_cases hw : (oth b q).who = who
    ·rw [if_pos hw] at hst
     rw [decide_eq_true hw]
     simp -failIfUnchanged (disch := first|omega|(simp<;>omega)|fail) only [go_sem,simprocAttr]
     refine ⟨q + 1, by dsimp only; omega, by dsimp only; omega, ?_⟩
     dsimp only
     rw [hst]
     simp -failIfUnchanged (disch := first|omega|(simp<;>omega)|fail) only [go_sem,simprocAttr]
     try simp
     try exact ⟨rfl, rfl, rfl, rfl⟩
     try (rw [hpc]; exact ⟨rfl, rfl, rfl, rfl⟩)
    ·rw [if_neg hw] at hst
     rw [decide_eq_false hw]
     simp -failIfUnchanged (disch := first|omega|(simp<;>omega)|fail) only [go_sem,simprocAttr]
     refine ⟨q + 1, by dsimp only; omega, by dsimp only; omega, ?_⟩
     dsimp only
     rw [hst]
     simp -failIfUnchanged (disch := first|omega|(simp<;>omega)|fail) only [go_sem,simprocAttr]
     try simp
     try exact ⟨rfl, rfl, rfl, rfl⟩
  ·have e : i = b.others.length := by omega
   subst e
   simp -failIfUnchanged (disch := first|omega|(simp<;>omega)|fail) only [go_sem,simprocAttr]
   try simp
   try exact ⟨rfl, rfl, rfl, rfl⟩
end Go.Proofs.YtggnmemkhookdaaGreatDoor.Fi

set_option linter.unusedSimpArgs false
set_option linter.unusedVariables false
set_option linter.unnecessarySimpa false
namespace Go.Proofs.YtggnmemkhookdaaGreatDoor.Fi
open Go Go.V Kn
def rgK (b : FB) (who : Int) (l : List (List Pa)) : Nat → Sp
 | 0 => owdI b (l[0]?.getD default) who
 | k + 1 => ⟨min (rgK b who l k).lo (owdI b (l[k]?.getD default) who).lo, max (rgK b who l k).hi (owdI b (l[k]?.getD default) who).hi⟩
abbrev owE (b : FB) (who : Int) : Int := askF b (within who 0 (w64 (b.persons - 1)))
def owdR (b : FB) (who : Int) : AV := .tup [SP (if owE b who = 0 then rgK b who (lrgL b) (lrgL b).length else ⟨0, 0⟩), .int (owE b who)]
theorem c12 (b : FB) (hs : SmF b) (who : Int) : Ctr Tryz.prog 12 [FK b, .int who] (owdR b who) := by
 refine ctr_of_wp hmix Tryz.func12 m12 rfl ?_
 unfold v12 owdR
 have a1 := c32 who 0 (w64 (b.persons - 1))
 have a2 := c31 b hs (within who 0 (w64 (b.persons - 1)))
 obtain ⟨e, hE⟩ : ∃ e, owE b who = e := ⟨_, rfl⟩
 have hE' : askF b (within who 0 (w64 (b.persons - 1))) = e := hE
 rw [hE'] at a2
 rw [hE]
 simp -failIfUnchanged (disch := first|omega|(simp<;>omega)|fail) only [go_sem,simprocAttr]
 refine wcall a1 ?_
 simp -failIfUnchanged (disch := first|omega|(simp<;>omega)|fail) only [go_sem,simprocAttr]
 refine wcall a2 ?_
 by_cases h0 : e = 0
 ·subst h0
  obtain ⟨hc, _⟩ := pr_0 hE'
  have hv := vf_of hc
  have k2 := c30 b hv
  have hne := lrgL_ne b
  have hgm : ∀ x ∈ lrgL b, GM b b.ones.length x := fun x hx => (mem_lrg.1 hx).1
  have h0 : 0 < (lrgL b).length := List.length_pos_iff.2 hne
  have hsm := lrg_small hv
  generalize lrgL b = M at k2 hgm h0 hsm ⊢
  have c33a : ∀ i, i < M.length → Ctr Tryz.prog 33 [PS (M[i]?.getD default), FK b, .int who] (SP (owdI b (M[i]?.getD default) who)) := fun i hi => c33 b hv _ (hgm _ (mem_getD hi)) who
  have hat : ∀ i, i < M.length → (M.map PS)[i]?.getD .nul = PS (M[i]?.getD default) := fun i hi => by simp [hi]
  have c0 := c33a 0 h0
  have e0 := hat 0 h0
  simp -failIfUnchanged (disch := first|omega|(simp<;>omega)|fail) only [go_sem,simprocAttr]
  refine wcall k2 ?_
  simp -failIfUnchanged (disch := first|omega|(simp<;>omega)|fail) only [go_sem,simprocAttr, e0]
  refine wcall c0 ?_
  simp -failIfUnchanged (disch := first|omega|(simp<;>omega)|fail) only [go_sem,simprocAttr]
  refine wp_loop' Nat (fun i => ⟨[(1, .int who), (2, .ptr 2 0), (4, .ptr 4 0), (8, .ptr 8 0), (31, .sl 1 (M.map PS) .sh), (32, .int M.length), (33, .int i)],
    [(8, ⟨[.int (rgK b who M i).lo, .int (rgK b who M i).hi], false⟩), (4, ⟨[.int 0, .int 0], false⟩), (2, ⟨FKc b, false⟩)], [], none⟩) (fun i => i ≤ M.length) (fun i => M.length - i) 0 (by simp) (by simp -failIfUnchanged (disch := first|omega|(simp<;>omega)|fail) only [go_sem,simprocAttr]; simp [rgK]) ?_
  intro i hi
  have hi : i ≤ M.length := hi
  simp -failIfUnchanged (disch := first|omega|(simp<;>omega)|fail) only [go_sem,simprocAttr]
  refine wcond_dec (fun h1 => ?_) (fun h1 => ?_)
  ·have hil : i < M.length := by omega
   have c1 := c33a i hil
   have e1 := hat i hil
   have hst : rgK b who M (i + 1) = ⟨min (rgK b who M i).lo (owdI b (M[i]?.getD default) who).lo, max (rgK b who M i).hi (owdI b (M[i]?.getD default) who).hi⟩ := rfl
   simp -failIfUnchanged (disch := first|omega|(simp<;>omega)|fail) only [go_sem,simprocAttr, e1]
   refine wcall c1 ?_
   simp -failIfUnchanged (disch := first|omega|(simp<;>omega)|fail) only [go_sem,simprocAttr]
   refine ⟨i + 1, by dsimp only; omega, by dsimp only; omega, ?_⟩
   dsimp only
   rw [hst]
   simp -failIfUnchanged (disch := first|omega|(simp<;>omega)|fail) only [go_sem,simprocAttr]
   try simp
  ·have e : i = M.length := by omega
   subst e
   simp -failIfUnchanged (disch := first|omega|(simp<;>omega)|fail) only [go_sem,simprocAttr]
   try simp
 ·have hd : decide (¬ e = 0) = true := decide_eq_true h0
  simp -failIfUnchanged (disch := first|omega|(simp<;>omega)|fail) only [go_sem,simprocAttr, hd]
  simp [h0]
end Go.Proofs.YtggnmemkhookdaaGreatDoor.Fi

set_option linter.unusedSimpArgs false
set_option linter.unusedVariables false
set_option linter.unnecessarySimpa false
namespace Go.Proofs.YtggnmemkhookdaaGreatDoor.Fi
open Go Go.V Kn
theorem zeros_ints (n : Nat) : zeros [.int 0] n = (List.replicate n (0 : Int)).map .int := by
 induction n with
 | zero => rfl
 | succ n ih => simp only [zeros, List.replicate_succ, List.map_cons, ih]; rfl
theorem setAt_ints {xs : List Int} {i : Nat} {x : Int} (h : i < xs.length) : setAt (xs.map .int) i [.int x] = (xs.set i x).map .int := by
 induction xs generalizing i with
 | nil => simp at h
 | cons w l ih =>
  cases i with
  | zero => rfl
  | succ i =>
   simp only [List.map_cons, setAt, List.set_cons_succ]
   rw [ih (by simpa using h)]
theorem map_ints {xs : List Int} {hp : List (Nat × BX)} : (xs.map AV.int).map (strip hp) = xs.map .int := by
 rw [List.map_map]
 rfl
theorem bids_ints {xs : List Int} : bids (xs.map AV.int) = [] := by
 induction xs with
 | nil => rfl
 | cons w l ih => simp only [List.map_cons, bids, AV.bid, AV.bid1, ih, List.append_nil]
theorem scopes_ints {τ : AS} {xs : List Int} : scopes τ (xs.map AV.int) = True := by
 induction xs with
 | nil => rfl
 | cons w l ih => simp only [List.map_cons, scopes, inScope, ih, and_self]
theorem ints_get {xs : List Int} {i : Nat} (h : i < xs.length) : (xs.map AV.int)[i]?.getD .und = .int (xs[i]?.getD default) := by simp [h]
attribute [go_sem] ints_get zeros_ints setAt_ints map_ints bids_ints scopes_ints
def bokL (b : FB) (n : Int) : List En := if n = 0 then b.ones else b.others
abbrev bkE (b : FB) (n : Int) : Int := askF b (within n 0 1)
theorem c34 (b : FB) (n : Int) : Ctr Tryz.prog 34 [FK b, .int n] (.tup [ES (bokL b n), .clo (if n = 0 then 62 else 63) [] []]) := by
 refine ctr_of_wp hmix Tryz.func34 m34 rfl ?_
 unfold v34 bokL
 simp -failIfUnchanged (disch := first|omega|(simp<;>omega)|fail) only [go_sem,simprocAttr]
 refine wcond_dec (fun h => ?_) (fun h => ?_)
 ·rw [if_pos h, if_pos h]
  simp -failIfUnchanged (disch := first|omega|(simp<;>omega)|fail) only [go_sem,simprocAttr]
  try simp
 ·rw [if_neg h, if_neg h]
  simp -failIfUnchanged (disch := first|omega|(simp<;>omega)|fail) only [go_sem,simprocAttr]
  try simp
theorem any_snoc {α : Type} [Inhabited α] {p : α → Bool} {l : List α} {i : Nat} (h : i < l.length) : (l.take (i + 1)).any p = ((l.take i).any p || p (l[i]?.getD default)) := by
 rw [List.take_add_one, List.getElem?_eq_getElem h, List.any_append]
 simp
structure CN (xs : List Int) (L : Nat) (B : Int) (p : Nat → Bool) : Prop where
 n : xs.length = L
 b : ∀ q, q < L → 0 ≤ xs[q]?.getD default ∧ xs[q]?.getD default ≤ B
 z : ∀ q, q < L → decide (xs[q]?.getD default = 0) = !p q
end Go.Proofs.YtggnmemkhookdaaGreatDoor.Fi

set_option linter.unusedSimpArgs false
set_option linter.unusedVariables false
set_option linter.unnecessarySimpa false
namespace Go.Proofs.YtggnmemkhookdaaGreatDoor.Fi
open Go Go.V Kn
end Go.Proofs.YtggnmemkhookdaaGreatDoor.Fi

set_option linter.unusedSimpArgs false
set_option linter.unusedVariables false
set_option linter.unnecessarySimpa false
namespace Go.Proofs.YtggnmemkhookdaaGreatDoor.Fi
open Go Go.V Kn
def bkX : FB := ⟨10, 2, 2, 3, [⟨1, 0, [⟨1, 1⟩, ⟨2, 5⟩]⟩, ⟨4, 1, [⟨0, 0⟩, ⟨7, 7⟩]⟩], [⟨3, 0, [⟨1, 1⟩, ⟨4, 9⟩]⟩, ⟨9, 1, [⟨0, 0⟩, ⟨7, 7⟩]⟩, ⟨2, 0, [⟨0, 1⟩, ⟨3, 3⟩]⟩]⟩
theorem c22 : Ctr Tryz.prog 22 [] (FK bkX) := by
 refine ctr_of_wp hmix Tryz.func22 m22 rfl ?_
 unfold v22 bkX
 simp -failIfUnchanged (disch := first|omega|(simp<;>omega)|fail) only [go_sem,simprocAttr]
 try simp
theorem bkX_s : SmF bkX := ⟨⟨by decide, by decide⟩, ⟨by decide, by decide⟩⟩
theorem x2 : fewR bkX = .tup [.int 4, .int 0] := by kernel_rfl
end Go.Proofs.YtggnmemkhookdaaGreatDoor.Fi

set_option linter.unusedSimpArgs false
set_option linter.unusedVariables false
set_option linter.unnecessarySimpa false
namespace Go.Proofs.YtggnmemkhookdaaGreatDoor.Fi
open Go Go.V Kn
end Go.Proofs.YtggnmemkhookdaaGreatDoor.Fi

set_option linter.unusedSimpArgs false
set_option linter.unusedVariables false
set_option linter.unnecessarySimpa false
namespace Go.Proofs.YtggnmemkhookdaaGreatDoor.Fi
open Go Go.V Kn
end Go.Proofs.YtggnmemkhookdaaGreatDoor.Fi

set_option linter.unusedSimpArgs false
set_option linter.unusedVariables false
set_option linter.unnecessarySimpa false
namespace Go.Proofs.YtggnmemkhookdaaGreatDoor.Fi
open Go Go.V Kn
end Go.Proofs.YtggnmemkhookdaaGreatDoor.Fi

set_option linter.unusedSimpArgs false
set_option linter.unusedVariables false
set_option linter.unnecessarySimpa false
namespace Go.Proofs.YtggnmemkhookdaaGreatDoor.Fi
open Go Go.V Kn
end Go.Proofs.YtggnmemkhookdaaGreatDoor.Fi

set_option linter.unusedSimpArgs false
set_option linter.unusedVariables false
set_option linter.unnecessarySimpa false
namespace Go.Proofs.YtggnmemkhookdaaGreatDoor.Fi
open Go Go.V Kn
end Go.Proofs.YtggnmemkhookdaaGreatDoor.Fi

set_option linter.unusedSimpArgs false
set_option linter.unusedVariables false
set_option linter.unnecessarySimpa false
namespace Go.Proofs.YtggnmemkhookdaaGreatDoor.Fi
open Go Go.V Kn
end Go.Proofs.YtggnmemkhookdaaGreatDoor.Fi

set_option linter.unusedSimpArgs false
set_option linter.unusedVariables false
set_option linter.unnecessarySimpa false
namespace Go.Proofs.YtggnmemkhookdaaGreatDoor.Fi
open Go Go.V Kn
end Go.Proofs.YtggnmemkhookdaaGreatDoor.Fi

set_option linter.unusedSimpArgs false
set_option linter.unusedVariables false
set_option linter.unnecessarySimpa false
namespace Go.Proofs.YtggnmemkhookdaaGreatDoor.Fi
open Go Go.V Kn
def zS : Sp := ⟨0, 0⟩
theorem sp_ext {a c : Sp} (h1 : a.lo = c.lo) (h2 : a.hi = c.hi) : a = c := by
 cases a; cases c; simp at h1 h2; rw [h1, h2]
theorem addS_comm (a c : Sp) : addS a c = addS c a := sp_ext (Int.add_comm _ _) (Int.add_comm _ _)
theorem addS_assoc (a c d : Sp) : addS (addS a c) d = addS a (addS c d) := sp_ext (Int.add_assoc _ _ _) (Int.add_assoc _ _ _)
theorem addS_z (a : Sp) : addS a zS = a := sp_ext (Int.add_zero _) (Int.add_zero _)
theorem z_addS (a : Sp) : addS zS a = a := sp_ext (Int.zero_add _) (Int.zero_add _)
theorem addS_4 (a c d e : Sp) : addS (addS a c) (addS d e) = addS (addS a d) (addS c e) := sp_ext (by unfold addS; dsimp only; omega) (by unfold addS; dsimp only; omega)
def sS (f : Nat → Sp) : Nat → Sp
 | 0 => zS
 | n + 1 => addS (sS f n) (f n)
def lS (F : Pa → Sp) : List Pa → Sp
 | [] => zS
 | p :: r => addS (F p) (lS F r)
theorem sS_add (f g : Nat → Sp) : ∀ n, sS (fun j => addS (f j) (g j)) n = addS (sS f n) (sS g n)
 | 0 => (addS_z zS).symm
 | n + 1 => by
  unfold sS
  rw [sS_add f g n, addS_4]
theorem sS_congr {f g : Nat → Sp} : ∀ {n : Nat}, (∀ j, j < n → f j = g j) → sS f n = sS g n
 | 0, _ => rfl
 | n + 1, h => by
  unfold sS
  rw [sS_congr (fun j hj => h j (by omega)), h n (by omega)]
theorem sS_z : ∀ n, sS (fun _ => zS) n = zS
 | 0 => rfl
 | n + 1 => by unfold sS; rw [sS_z n, addS_z]
theorem sS_one (c : Nat) (x : Sp) : ∀ n, sS (fun j => if c = j then x else zS) n = if c < n then x else zS
 | 0 => rfl
 | n + 1 => by
  unfold sS
  rw [sS_one c x n]
  by_cases h : c < n
  ·rw [if_pos h, if_neg (by omega), if_pos (by omega), addS_z]
  ·rw [if_neg h]
   by_cases e : c = n
   ·rw [if_pos e, if_pos (by omega), z_addS]
   ·rw [if_neg e, if_neg (by omega), addS_z]
theorem lS_app (F : Pa → Sp) : ∀ (l r : List Pa), lS F (l ++ r) = addS (lS F l) (lS F r)
 | [], r => (z_addS _).symm
 | p :: l, r => by
  show addS (F p) (lS F (l ++ r)) = _
  rw [lS_app F l r, ← addS_assoc]
  rfl
def hitS (F : Pa → Sp) : List Pa → Nat → Sp
 | [], _ => zS
 | p :: r, j => if p.other = (j : Int) then F p else hitS F r j
theorem hitS_no (F : Pa → Sp) : ∀ {l : List Pa} {j : Nat}, (∀ p ∈ l, p.other ≠ (j : Int)) → hitS F l j = zS
 | [], _, _ => rfl
 | p :: r, j, h => by
  unfold hitS
  rw [if_neg (h p (by simp)), hitS_no F fun q hq => h q (by simp [hq])]
theorem hitS_at (F : Pa → Sp) : ∀ {l : List Pa} {j : Nat} {p : Pa}, (l.Pairwise fun p q => p.other ≠ q.other) → p ∈ l → p.other = (j : Int) → hitS F l j = F p
 | [], _, _, _, h, _ => by simp at h
 | q :: r, j, p, hd, hp, hj => by
  unfold hitS
  rcases List.mem_cons.1 hp with rfl | hp
  ·rw [if_pos hj]
  ·have := (List.pairwise_cons.1 hd).1 p hp
   rw [if_neg (fun e => this (by rw [e, hj])), hitS_at F (List.pairwise_cons.1 hd).2 hp hj]
theorem sS_hit (F : Pa → Sp) (n : Nat) : ∀ {l : List Pa}, (l.Pairwise fun p q => p.other ≠ q.other) → (∀ p ∈ l, 0 ≤ p.other ∧ p.other < (n : Int)) → sS (hitS F l) n = lS F l
 | [], _, _ => sS_z n
 | p :: r, hd, hb => by
  have ih := sS_hit F n (List.pairwise_cons.1 hd).2 fun q hq => hb q (by simp [hq])
  have hp := hb p (by simp)
  have e : sS (hitS F (p :: r)) n = sS (fun j => addS (if p.other.toNat = j then F p else zS) (hitS F r j)) n := by
   refine sS_congr fun j hj => ?_
   show (if p.other = (j : Int) then F p else hitS F r j) = _
   by_cases e : p.other = (j : Int)
   ·rw [if_pos e, if_pos (by omega), hitS_no F fun q hq => by
     have := (List.pairwise_cons.1 hd).1 q hq
     intro e2
     exact this (by rw [e, e2]), addS_z]
   ·rw [if_neg e, if_neg (by omega), z_addS]
  rw [e, sS_add, sS_one, if_pos (by omega), ih]
  rfl
def prF (b : FB) (who : Int) (p : Pa) : Sp := if (one b p.one.toNat).who = who then pcI b (one b p.one.toNat) (oth b p.other.toNat) else zS
def onF (b : FB) (t : List Pa) (who : Int) (i : Nat) : Sp := if (one b i).who = who ∧ inO t i = false then endsL b.base (one b i).cord else zS
def otF (b : FB) (t : List Pa) (who : Int) (j : Nat) : Sp := if (oth b j).who = who ∧ inT t j = false then endsL b.base (oth b j).cord else zS
def owC (b : FB) (t : List Pa) (who : Int) : Sp := addS (lS (prF b who) t) (addS (sS (onF b t who) b.ones.length) (sS (otF b t who) b.others.length))
theorem ow1_eq (b : FB) (t : List Pa) (who : Int) : ∀ k, ow1K b t who k = sS (onF b t who) k
 | 0 => rfl
 | k + 1 => by
  unfold ow1K sS
  rw [ow1_eq b t who k]
  unfold onF
  by_cases h : (one b k).who = who ∧ inO t k = false
  ·rw [if_pos ⟨h.2, h.1⟩, if_pos h]
  ·rw [if_neg (fun x => h ⟨x.2, x.1⟩), if_neg h, addS_z]
theorem any_inT {t : List Pa} {j : Nat} : inT t j = false ↔ ∀ p ∈ t, p.other ≠ (j : Int) := by
 unfold inT
 rw [List.any_eq_false]
 simp
theorem idx_neg {α : Type} {p : α → Bool} {l : List α} : idxF p l < 0 ↔ l.any p = false := by
 unfold idxF
 cases h : l.any p with
 | true => simp
 | false => simp
theorem oth_eq {b : FB} {t : List Pa} (hg : GM b b.ones.length t) (who : Int) {j : Nat} (hj : j < b.others.length) : (if (oth b j).who = who then othS b t j else zS) = addS (hitS (prF b who) t j) (otF b t who j) := by
 unfold othS otF
 by_cases hn : idxF (fun p : Pa => decide (p.other = (j : Int))) t < 0
 ·rw [if_pos hn]
  have h1 := idx_neg.1 hn
  have h2 : inT t j = false := h1
  rw [hitS_no _ (any_inT.1 h2), z_addS]
  by_cases h : (oth b j).who = who
  ·rw [if_pos h, if_pos ⟨h, h2⟩]
  ·rw [if_neg h, if_neg (fun x => h x.1)]
 ·rw [if_neg hn]
  obtain ⟨k, e1, hk, hkp⟩ := idx_at hn
  obtain ⟨p, q, e, hp, hq, hc⟩ := gm_at hg hk
  rw [e1, Int.toNat_natCast, e]
  rw [e] at hkp
  have hkp := of_decide_eq_true hkp
  dsimp only at hkp
  have : q = j := by omega
  subst this
  have h2 : inT t q = true := by
   cases h : inT t q with
   | true => rfl
   | false => exact absurd (idx_neg.2 h) hn
  have hmem : (⟨(p : Int), (q : Int)⟩ : Pa) ∈ t := by rw [← e]; exact mem_getD hk
  have hnn : ¬ ((oth b q).who = who ∧ true = false) := by simp
  rw [hitS_at (prF b who) hg.d hmem rfl, h2, if_neg hnn, addS_z]
  unfold prF
  dsimp only
  simp only [Int.toNat_natCast]
  have hw : (one b p).who = (oth b q).who := by
   unfold comB at hc
   simp only [Bool.and_eq_true, decide_eq_true_eq] at hc
   exact hc.1
  rw [hw]
theorem ow2_eq {b : FB} {t : List Pa} (hg : GM b b.ones.length t) (who : Int) (s : Sp) : ∀ k, k ≤ b.others.length → ow2K b t who s k = addS s (sS (fun j => addS (hitS (prF b who) t j) (otF b t who j)) k)
 | 0, _ => (addS_z s).symm
 | k + 1, h => by
  unfold ow2K sS
  rw [ow2_eq hg who s k (by omega), ← oth_eq hg who (by omega)]
  split
  ·rw [addS_assoc]
  ·rw [addS_z]
theorem ow_eq {b : FB} {t : List Pa} (hg : GM b b.ones.length t) (who : Int) : owdI b t who = owC b t who := by
 unfold owdI owC
 rw [ow2_eq hg who _ _ (Nat.le_refl _), sS_add, ow1_eq, sS_hit _ _ hg.d (fun p hp => (hg.p p hp).2.1), ← addS_assoc, addS_comm (sS (onF b t who) _), addS_assoc]
end Go.Proofs.YtggnmemkhookdaaGreatDoor.Fi

set_option linter.unusedSimpArgs false
set_option linter.unusedVariables false
set_option linter.unnecessarySimpa false
namespace Go.Proofs.YtggnmemkhookdaaGreatDoor.Fi
open Go Go.V Kn Go.WideShapes
theorem bid_nilp : AV.bid .nilp = [] := rfl
theorem strip_nilp {hp : HpL} : strip hp .nilp = .nilp := rfl
theorem isUnd_nilp : AV.isUnd .nilp = false := rfl
theorem bid_mpr {l : Nat} : AV.bid (.mpr l) = [] := rfl
theorem strip_mpr {hp : HpL} {l : Nat} : strip hp (.mpr l) = .mpr l := rfl
theorem isUnd_mpr {l : Nat} : AV.isUnd (.mpr l) = false := rfl
theorem inS_mpr {τ : AS} {l : Nat} : inScope τ (.mpr l) = True := rfl
attribute [go_sem] inS_mpr bid_nilp strip_nilp isUnd_nilp bid_mpr strip_mpr isUnd_mpr
def intT (P : Program) : Nat → TypeId → Bool
 | 0, _ => false
 | d + 1, t => match P.underlying t with
  | some (.int q) => q == .i64 && P.cellsOf t == 1
  | some (.array n e) => P.cellsOf t == n * P.cellsOf e && intT P d e
  | some (.struct fs) => fs.toList.all fun f => f.name != "_" && decide (f.offset + P.cellsOf f.type ≤ P.cellsOf t) && intT P d f.type
  | _ => false
theorem mapM_some {α β : Type} {f : α → Option β} : ∀ {l : List α}, (∀ x ∈ l, ∃ y, f x = some y) → ∃ ys, l.mapM f = some ys
 | [], _ => ⟨[], by simp⟩
 | x :: r, h => by
  obtain ⟨y, hy⟩ := h x (by simp)
  obtain ⟨ys, hys⟩ := mapM_some (l := r) fun z hz => h z (by simp [hz])
  exact ⟨y :: ys, by simp [List.mapM_cons, hy, hys]⟩
theorem keyLits_ints {P : Program} : ∀ (d : Nat) (t : TypeId) (cs : List Value), intT P d t = true → cs.length = P.cellsOf t → (∀ v ∈ cs, ∃ n, v = .int .i64 n ∧ inR n) → ∃ ls, P.keyLits d t cs = some ls
 | 0, _, _, h, _, _ => by simp [intT] at h
 | d + 1, t, cs, h, hl, hv => by
  unfold intT at h
  unfold Program.keyLits
  cases hu : P.underlying t with
  | none => simp [hu] at h
  | some k =>
   cases k <;> simp only [hu, Bool.false_eq_true] at h
   case int q =>
    simp only [Bool.and_eq_true, beq_iff_eq] at h
    obtain ⟨rfl, hc⟩ := h
    rw [hc] at hl
    match cs, hl with
    | [v], _ =>
     obtain ⟨n, rfl, hn⟩ := hv v (by simp)
     refine ⟨[.int .i64 n], ?_⟩
     have : (Lit.int .i64 n).wf = true := by
      unfold inR at hn
      simp only [Lit.wf, Bool.and_eq_true, decide_eq_true_eq]
      exact hn
     simp [this]
   case array n e =>
    simp only [Bool.and_eq_true, beq_iff_eq] at h
    obtain ⟨hc, he⟩ := h
    obtain ⟨ys, hys⟩ := mapM_some (f := fun i => P.keyLits d e ((cs.drop (i * P.cellsOf e)).take (P.cellsOf e))) (l := List.range n) fun i hi => by
     have hi := List.mem_range.1 hi
     refine keyLits_ints d e _ he ?_ fun v hv' => hv v (List.mem_of_mem_drop (List.mem_of_mem_take hv'))
     have h1 : i * P.cellsOf e + P.cellsOf e ≤ n * P.cellsOf e := by
      rw [← Nat.succ_mul]
      exact Nat.mul_le_mul_right _ hi
     rw [List.length_take, List.length_drop, hl, hc]
     omega
    refine ⟨ys.flatten, ?_⟩
    simp [hl, hys]
   case struct fs =>
    obtain ⟨ys, hys⟩ := mapM_some (f := fun f : Field => P.keyLits d f.type ((cs.drop f.offset).take (P.cellsOf f.type))) (l := fs.toList) fun f hf => by
     have h1 := List.all_eq_true.1 h f hf
     simp only [Bool.and_eq_true, decide_eq_true_eq] at h1
     obtain ⟨⟨_, h2⟩, h3⟩ := h1
     refine keyLits_ints d f.type _ h3 ?_ fun v hv' => hv v (List.mem_of_mem_drop (List.mem_of_mem_take hv'))
     rw [List.length_take, List.length_drop, hl]
     omega
    have hn : ∀ x ∈ fs, ¬ x.name = "_" := by
     intro x hx
     have h1 := List.all_eq_true.1 h x (by simpa using hx)
     simp only [Bool.and_eq_true, bne_iff_ne] at h1
     exact h1.1.1
    refine ⟨ys.flatten, ?_⟩
    simp [hl, hys]
    exact fun i hi => hn _ (Array.getElem_mem hi)
theorem mkey {P : Program} {t k : TypeId} {n : Nat} (h1 : P.underlying t = some (.map k 3)) (h2 : laidOutB P = true) (h3 : k < P.types.size) (h4 : P.keyTypeAt 5 k = true)
  (h5 : (match P.underlying k with | some (.array _ _) | some (.struct _) => true | _ => false) = true) (h6 : intT P (P.types.size + 1) k = true) (h7 : P.keyType k = true) (h8 : P.cellsOf k = n)
  (h9 : ∀ w, (zeroValue 3).run P w = .ok (.int .i64 0) w) : MKey P t n := by
 refine ⟨k, 3, h1, Maps.Keyed.of_law (deep_law_laid h2 (m := 5) (by omega) h3 h4 h5), fun xs hx hr => ?_, h9⟩
 have hf : (kval xs).formed P k = true := by
  unfold kval Value.formed
  split at h5
  ·next h => simp only [h]; simp [hx, h8]
  ·next h => simp only [h]; simp [hx, h8]
  ·cases h5
 obtain ⟨ls, hls⟩ := keyLits_ints (P := P) (P.types.size + 1) k (kval xs).cells.toList h6 (by simp [kval, Value.cells, hx, h8]) (fun v hv => by
  simp only [kval, Value.cells, List.toList_toArray, List.mem_map] at hv
  obtain ⟨x, hx, rfl⟩ := hv
  exact ⟨x, rfl, hr x hx⟩)
 have h10 : (P.keyType k && (kval xs).formed P k) = true := by rw [h7, hf]; rfl
 unfold keyOf
 split at h5
 ·next h => rw [h]; simp only; rw [if_pos h10, hls]; exact ⟨_, rfl⟩
 ·next h => rw [h]; simp only; rw [if_pos h10, hls]; exact ⟨_, rfl⟩
 ·cases h5
theorem zero_of {P : Program} {t : TypeId} {z : Value} (h : ((P.info? t).bind fun i => i.zero) = some z) (w : World) : (zeroValue t).run P w = .ok z w := by
 cases hi : P.info? t with
 | none => rw [hi] at h; cases h
 | some i =>
  rw [hi] at h
  have hz : i.zero = some z := h
  have h1 : (typeInfo t).run P w = .ok i w := run_typeInfo (w := w) hi
  simp [zeroValue, h1, hz]
theorem zero3 (w : World) : (zeroValue 3).run Tryz.prog w = .ok (.int .i64 0) w := zero_of (by kernel_rfl) w
theorem mk71 : MKey Tryz.prog 71 2 := mkey Tryz.underlying71 (by kernel_rfl) (of_decide_eq_true (by kernel_rfl)) (by kernel_rfl) (by kernel_rfl) (by kernel_rfl) (by kernel_rfl) (by kernel_rfl) zero3
abbrev hasB (t : List Pa) (q : Pa) : Bool := t.any fun p => decide (p.one = q.one ∧ p.other = q.other)
def musP (b : FB) (p : Pa) : Bool := (lrgL b).all fun t => hasB t p
def musK (b : FB) (k : Nat) : List Pa := ((fstM b).take k).filter (musP b)
def musL (b : FB) : List Pa := (fstM b).filter (musP b)
def musR (b : FB) : AV := .tup [PS (if chkB b then musL b else []), .int (errF b)]
theorem hasB_iff {t : List Pa} {q : Pa} : hasB t q = true ↔ q ∈ t := by
 unfold hasB
 rw [List.any_eq_true]
 constructor
 ·rintro ⟨p, hp, h⟩
  have h := of_decide_eq_true h
  have : p = q := by cases p; cases q; simp at h; rw [h.1, h.2]
  rwa [← this]
 ·intro h
  exact ⟨q, h, decide_eq_true ⟨rfl, rfl⟩⟩
def cnI (M : List (List Pa)) (x y : Int) : Nat := M.countP fun t => hasB t ⟨x, y⟩
theorem cnI_snoc {M : List (List Pa)} {i : Nat} (h : i < M.length) (x y : Int) : cnI (M.take (i + 1)) x y = cnI (M.take i) x y + (if hasB (M[i]?.getD default) ⟨x, y⟩ then 1 else 0) := by
 unfold cnI
 rw [List.take_add_one, List.getElem?_eq_getElem h, List.countP_append]
 congr 1
 show List.countP _ [M[i]] = _
 rw [List.countP_cons, List.countP_nil, Nat.zero_add]
 rfl
theorem cnI_le (M : List (List Pa)) (x y : Int) : cnI M x y ≤ M.length := List.countP_le_length
theorem musP_cn {b : FB} (p : Pa) : musP b p = decide (cnI (lrgL b) p.one p.other = (lrgL b).length) := by
 unfold musP cnI
 have e : ∀ M : List (List Pa), (M.all fun t => hasB t p) = decide ((M.countP fun t => hasB t p) = M.length) := fun M => by
  cases h : M.all fun t => hasB t p with
  | true =>
   symm
   apply decide_eq_true
   rw [List.countP_eq_length]
   exact List.all_eq_true.1 h
  | false =>
   symm
   apply decide_eq_false
   intro hc
   rw [List.countP_eq_length] at hc
   rw [List.all_eq_true.2 hc] at h
   cases h
 exact e _
theorem musK_succ {b : FB} {k : Nat} (h : k < (fstM b).length) : musK b (k + 1) = musK b k ++ (if musP b ((fstM b)[k]?.getD default) then [(fstM b)[k]?.getD default] else []) := by
 unfold musK
 rw [List.take_add_one, List.filter_append, List.getElem?_eq_getElem h]
 congr 1
 by_cases e : musP b (fstM b)[k] <;> simp [e]
theorem musK_len (b : FB) (k : Nat) : (musK b k).length ≤ (fstM b).length := by
 unfold musK
 refine Nat.le_trans (List.length_filter_le _ _) ?_
 rw [List.length_take]
 omega
theorem gm_new {b : FB} {n : Nat} {t : List Pa} (hg : GM b n t) {j : Nat} (hj : j < t.length) {p : Pa} (hp : t[j]?.getD default = p) : hasB (t.take j) p = false := by
 cases h : hasB (t.take j) p with
 | false => rfl
 | true =>
  exfalso
  obtain ⟨i, hi, e⟩ := List.mem_iff_getElem.1 (hasB_iff.1 h)
  have hij : i < j := by simp at hi; omega
  have := List.pairwise_iff_getElem.1 hg.o i j (by omega) hj hij
  rw [List.getElem_take] at e
  rw [List.getElem?_eq_getElem hj] at hp
  have hp2 : t[j] = p := hp
  rw [e, hp2] at this
  omega
theorem has_snoc {t : List Pa} {j : Nat} (hj : j < t.length) (q : Pa) : hasB (t.take (j + 1)) q = (hasB (t.take j) q || decide ((t[j]?.getD default).one = q.one ∧ (t[j]?.getD default).other = q.other)) := by
 unfold hasB
 rw [any_snoc hj]
set_option maxRecDepth 10000 in
theorem c11 (b : FB) (hs : SmF b) : Ctr Tryz.prog 11 [FK b] (musR b) := by
 refine ctr_of_wp hmix Tryz.func11 m11 rfl ?_
 unfold v11 musR
 have k1 := c28 b hs
 unfold errF at k1 ⊢
 cases hc : chkB b with
 | false =>
  rw [hc] at k1
  simp -failIfUnchanged (disch := first|omega|(simp<;>omega)|fail) only [go_sem,simprocAttr]
  refine wcall k1 ?_
  simp -failIfUnchanged (disch := first|omega|(simp<;>omega)|fail) only [go_sem,simprocAttr]
  try simp
 | true =>
  rw [hc] at k1
  have hv := vf_of hc
  have k2 := c30 b hv
  have hsm := lrg_small hv
  have hgm : ∀ x ∈ lrgL b, GM b b.ones.length x := fun x hx => (mem_lrg.1 hx).1
  have h0 : 0 < (lrgL b).length := List.length_pos_iff.2 (lrgL_ne b)
  have hf : (lrgL b)[0]?.getD default = fstM b := rfl
  have e0 := fst_at (b := b)
  have hfl := fst_len hv
  have hgf : GM b b.ones.length (fstM b) := hgm _ (fst_most b).1
  have hmP := fun p => musP_cn (b := b) p
  generalize lrgL b = M at k2 hsm hgm h0 hf e0 hmP
  have hat : ∀ i, i < M.length → (M.map PS)[i]?.getD .nul = PS (M[i]?.getD default) := fun i hi => by simp [hi]
  simp -failIfUnchanged (disch := first|omega|(simp<;>omega)|fail) only [go_sem,simprocAttr]
  refine wcall k1 ?_
  simp -failIfUnchanged (disch := first|omega|(simp<;>omega)|fail) only [go_sem,simprocAttr]
  refine wmmake mk71 fun l => ?_
  simp -failIfUnchanged (disch := first|omega|(simp<;>omega)|fail) only [go_sem,simprocAttr]
  refine wcall k2 ?_
  simp -failIfUnchanged (disch := first|omega|(simp<;>omega)|fail) only [go_sem,simprocAttr]
  refine wp_loop' (Nat × List (List Int × Int)) (fun st => ⟨[(5, .mpr l), (6, .sl 1 (M.map PS) .sh), (22, .sl 1 (M.map PS) .sh), (23, .int M.length), (24, .int st.1)], [], [], some (.mp l 2 st.2)⟩)
   (fun st => st.1 ≤ M.length ∧ ∀ x y, kvget st.2 [x, y] = (cnI (M.take st.1) x y : Nat)) (fun st => M.length - st.1) (0, []) ⟨by simp, fun x y => rfl⟩ (by simp -failIfUnchanged (disch := first|omega|(simp<;>omega)|fail) only [go_sem,simprocAttr]; try simp) ?_
  rintro ⟨i, kv⟩ ⟨hi, hkv⟩
  dsimp only at hi hkv
  simp -failIfUnchanged (disch := first|omega|(simp<;>omega)|fail) only [go_sem,simprocAttr]
  refine wcond_dec (fun h1 => ?_) (fun h1 => ?_)
  ·have hil : i < M.length := by omega
   have e1 := hat i hil
   obtain ⟨t, ht⟩ : ∃ t, M[i]?.getD default = t := ⟨_, rfl⟩
   have hg := hgm t (by rw [← ht]; exact mem_getD hil)
   have htl := gm_len hg
   have hn1 := hv.n1
   have hn2 := hv.n2
   rw [ht] at e1
   simp -failIfUnchanged (disch := first|omega|(simp<;>omega)|fail) only [go_sem,simprocAttr, e1, ht]
   refine wp_loop' (Nat × List (List Int × Int)) (fun st => ⟨[(5, .mpr l), (6, .sl 1 (M.map PS) .sh), (22, .sl 1 (M.map PS) .sh), (23, .int M.length), (24, .int i), (28, PS t), (29, .int t.length), (30, .int st.1)], [], [], some (.mp l 2 st.2)⟩)
    (fun st => st.1 ≤ t.length ∧ ∀ x y, kvget st.2 [x, y] = ((cnI (M.take i) x y + (if hasB (t.take st.1) ⟨x, y⟩ then 1 else 0) : Nat) : Int)) (fun st => t.length - st.1) (0, kv) ⟨by simp, fun x y => by rw [hkv]; simp⟩ (by simp -failIfUnchanged (disch := first|omega|(simp<;>omega)|fail) only [go_sem,simprocAttr]; try simp) ?_
   rintro ⟨j, kw⟩ ⟨hj, hkw⟩
   dsimp only at hj hkw
   simp -failIfUnchanged (disch := first|omega|(simp<;>omega)|fail) only [go_sem,simprocAttr]
   refine wcond_dec (fun h2 => ?_) (fun h2 => ?_)
   ·have hjl : j < t.length := by omega
    obtain ⟨p, q, e, hp, hq, _⟩ := gm_at hg hjl
    have hnew := gm_new hg hjl e
    have hk := hkw p q
    rw [hnew] at hk
    have hcl := cnI_le (M.take i) p q
    have hcl2 : cnI (M.take i) p q ≤ i := by rw [List.length_take] at hcl; omega
    simp only [Bool.false_eq_true, if_false, Nat.add_zero] at hk
    simp -failIfUnchanged (disch := first|omega|(simp<;>omega)|fail) only [go_sem,simprocAttr, e]
    refine wbump (xs := [(p : Int), (q : Int)]) mk71 rfl ?_ rfl (fun y hy => ?_) ?_
    ·simp -failIfUnchanged (disch := first|omega|(simp<;>omega)|fail) only [go_sem,simprocAttr]
     try simp
    ·simp at hy
     unfold inR
     rcases hy with rfl | rfl <;> omega
    ·rw [hk]
     have hw : w64 (((cnI (M.take i) p q : Nat) : Int) + 1) = ((cnI (M.take i) p q + 1 : Nat) : Int) := by rw [w64_id (by omega)]; omega
     rw [hw]
     simp -failIfUnchanged (disch := first|omega|(simp<;>omega)|fail) only [go_sem,simprocAttr]
     refine ⟨(j + 1, kvset kw [(p : Int), (q : Int)] ((cnI (M.take i) p q + 1 : Nat) : Int)), ⟨by dsimp only; omega, fun x y => ?_⟩, by dsimp only; omega, ?_⟩
     ·dsimp only
      rw [kvget_set, has_snoc hjl, e]
      dsimp only
      by_cases hxy : x = (p : Int) ∧ y = (q : Int)
      ·obtain ⟨rfl, rfl⟩ := hxy
       rw [if_pos rfl]
       simp
      ·have h1 : ¬ ([x, y] : List Int) = [(p : Int), (q : Int)] := by
        intro h
        simp at h
        exact hxy h
       have h2 : decide ((p : Int) = x ∧ (q : Int) = y) = false := decide_eq_false (fun h => hxy ⟨h.1.symm, h.2.symm⟩)
       rw [if_neg h1, h2, Bool.or_false, hkw]
     ·simp -failIfUnchanged (disch := first|omega|(simp<;>omega)|fail) only [go_sem,simprocAttr]
      try simp
   ·have ej : j = t.length := by omega
    subst ej
    simp -failIfUnchanged (disch := first|omega|(simp<;>omega)|fail) only [go_sem,simprocAttr]
    refine ⟨(i + 1, kw), ⟨by dsimp only; omega, fun x y => ?_⟩, by dsimp only; omega, ?_⟩
    ·dsimp only
     rw [hkw, List.take_length, cnI_snoc hil, ht]
    ·simp -failIfUnchanged (disch := first|omega|(simp<;>omega)|fail) only [go_sem,simprocAttr]
     try simp
  ·have ei : i = M.length := by omega
   subst ei
   rw [List.take_length] at hkv
   have hgf2 := hgf
   unfold musL
   have hmk : ∀ k, k < (fstM b).length → musK b (k + 1) = musK b k ++ (if musP b ((fstM b)[k]?.getD default) then [(fstM b)[k]?.getD default] else []) := fun k hk => musK_succ hk
   have hml := musK_len b
   have hm0 : musK b 0 = [] := rfl
   have hmn : (fstM b).filter (musP b) = musK b (fstM b).length := by unfold musK; rw [List.take_length]
   rw [hmn]
   obtain ⟨F, hF⟩ : ∃ F, fstM b = F := ⟨_, rfl⟩
   rw [hF] at hf e0 hfl hgf hmk hml ⊢
   simp -failIfUnchanged (disch := first|omega|(simp<;>omega)|fail) only [go_sem,simprocAttr, e0, hf]
   refine wp_loop' Nat (fun k => ⟨[(5, .mpr l), (6, .sl 1 (M.map PS) .sh), (11, .sl 2 ((musK b k).map PA) (.own 11)), (44, PS F), (45, .int F.length), (46, .int k)],
    [], [(11, (musK b k).length)], some (.mp l 2 kv)⟩) (fun k => k ≤ F.length) (fun k => F.length - k) 0 (by simp) (by simp -failIfUnchanged (disch := first|omega|(simp<;>omega)|fail) only [go_sem,simprocAttr]; simp [hm0]) ?_
   intro k hk
   have hk : k ≤ F.length := hk
   have hkl := hml k
   simp -failIfUnchanged (disch := first|omega|(simp<;>omega)|fail) only [go_sem,simprocAttr]
   refine wcond_dec (fun h2 => ?_) (fun h2 => ?_)
   ·have hkL : k < F.length := by omega
    obtain ⟨p, q, e, hp, hq, _⟩ := gm_at hgf hkL
    have hks := hmk k hkL
    have hn1 := hv.n1
    have hn2 := hv.n2
    have hkg := hkv p q
    have hmp := hmP ⟨(p : Int), (q : Int)⟩
    rw [e] at hks
    have hdz : decide (((cnI M p q : Nat) : Int) = (M.length : Int)) = musP b ⟨(p : Int), (q : Int)⟩ := by
     rw [hmp]
     apply decide_eq_decide.2
     dsimp only
     omega
    simp -failIfUnchanged (disch := first|omega|(simp<;>omega)|fail) only [go_sem,simprocAttr, e]
    refine wmlook (xs := [(p : Int), (q : Int)]) mk71 rfl (fun y hy => ?_) ?_
    ·simp at hy
     unfold inR
     rcases hy with rfl | rfl <;> omega
    rw [hkg]
    simp -failIfUnchanged (disch := first|omega|(simp<;>omega)|fail) only [go_sem,simprocAttr, hdz]
    cases ha : musP b ⟨(p : Int), (q : Int)⟩ with
    | true =>
     rw [ha] at hks
     simp -failIfUnchanged (disch := first|omega|(simp<;>omega)|fail) only [go_sem,simprocAttr]
     refine ⟨k + 1, by dsimp only; omega, by dsimp only; omega, ?_⟩
     dsimp only
     rw [hks]
     simp -failIfUnchanged (disch := first|omega|(simp<;>omega)|fail) only [go_sem,simprocAttr]
     try simp
    | false =>
     rw [ha] at hks
     simp -failIfUnchanged (disch := first|omega|(simp<;>omega)|fail) only [go_sem,simprocAttr]
     refine ⟨k + 1, by dsimp only; omega, by dsimp only; omega, ?_⟩
     dsimp only
     rw [hks]
     simp -failIfUnchanged (disch := first|omega|(simp<;>omega)|fail) only [go_sem,simprocAttr]
     try simp
   ·have ek : k = F.length := by omega
    subst ek
    simp -failIfUnchanged (disch := first|omega|(simp<;>omega)|fail) only [go_sem,simprocAttr]
    try simp
end Go.Proofs.YtggnmemkhookdaaGreatDoor.Fi

set_option linter.unusedSimpArgs false
set_option linter.unusedVariables false
set_option linter.unnecessarySimpa false
namespace Go.Proofs.YtggnmemkhookdaaGreatDoor.Fi
open Go Go.V Kn
end Go.Proofs.YtggnmemkhookdaaGreatDoor.Fi
