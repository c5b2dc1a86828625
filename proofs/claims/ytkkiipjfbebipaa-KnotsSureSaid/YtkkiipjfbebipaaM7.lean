/- Merged by program: T49, T50, T51. -/
import Derived.Test.YtkkiipjfbebipaaM6
/- What is carried: the reference's CarryOf. -/
set_option linter.unusedSimpArgs false
set_option linter.unusedVariables false
set_option linter.unnecessarySimpa false
namespace Go.Proofs.Ytkkiipjfbebipaa
open Go Go.V

def crT (B : Nat) : Nat → List Nat → Nat
  | 0, _ => 0
  | k + 1, t => (crT B k t + (t.map (· / B ^ k % B)).sum) / B

theorem sum_split (N B : Nat) (hN : 0 < N) : ∀ t : List Nat, (t.map (· % (N * B))).sum = (t.map (· / N % B)).sum * N + (t.map (· % N)).sum
  | [] => by simp
  | x :: r => by
    simp only [List.map_cons, List.sum_cons]
    rw [sum_split N B hN r, Nat.add_mul]
    have : x % (N * B) = x / N % B * N + x % N := by
      rw [Nat.mod_mul, Nat.mul_comm]
      omega
    omega

theorem crT_eq {B : Nat} (hB : 0 < B) : ∀ (k : Nat) (t : List Nat), crT B k t = (t.map (· % B ^ k)).sum / B ^ k
  | 0, t => by
    have : (t.map (· % B ^ 0)).sum = 0 := by
      induction t with
      | nil => rfl
      | cons x r ih =>
        rw [List.map_cons, List.sum_cons, ih, Nat.pow_zero, Nat.mod_one]
    rw [this, Nat.zero_div]
    rfl
  | k + 1, t => by
    have hN : 0 < B ^ k := Nat.pow_pos hB
    rw [crT, crT_eq hB k t, Nat.pow_succ, ← Nat.div_div_eq_div_mul, sum_split _ _ hN, Nat.mul_comm _ (B ^ k), Nat.mul_add_div hN, Nat.add_comm]

theorem sum_mod_lt {N : Nat} (hN : 0 < N) : ∀ t : List Nat, (t.map (· % N)).sum ≤ t.length * N
  | [] => by simp
  | x :: r => by
    have := sum_mod_lt hN r
    have := Nat.mod_lt x hN
    simp only [List.map_cons, List.sum_cons, List.length_cons, Nat.add_mul]
    omega

theorem crT_le {B : Nat} (hB : 0 < B) (k : Nat) (t : List Nat) : crT B k t ≤ t.length := by
  rw [crT_eq hB]
  have hN : 0 < B ^ k := Nat.pow_pos hB
  exact Nat.div_le_of_le_mul (by rw [Nat.mul_comm]; exact sum_mod_lt hN t)

theorem carN_cr {b : Bk} (hB : 0 < b.base.toNat) (l : List Nat) (p : Nat) : carN b l p = crT b.base.toNat (b.places.toNat - p) (l.take b.cords.length) := by
  rw [crT_eq hB]
  rfl

theorem dsum_le {B : Nat} (hB : 0 < B) (N : Nat) : ∀ t : List Nat, (t.map (· / N % B)).sum ≤ t.length * B
  | [] => by simp
  | x :: r => by
    have := dsum_le hB N r
    have := Nat.mod_lt (x / N) hB
    simp only [List.map_cons, List.sum_cons, List.length_cons, Nat.add_mul]
    omega

theorem c62 (b : Bk) (hv : Val b) (l : List Nat) (hl : l.length = b.cords.length + 1) (hsm : ∀ x ∈ l, x < allN b) (place : Nat) (hp : place < b.places.toNat) : Ctr Try.prog 62 [KB b, IS (nat l), .int place] (.int (carN b l place)) := by
  refine ctr_of_wp hmix Try.func62 m62 rfl ?_
  unfold v62
  obtain ⟨hb1, hb2⟩ := hv.hb
  obtain ⟨hp1, hp2⟩ := hv.hp
  have hB : 0 < b.base.toNat := by omega
  have hall := allN_le hv
  have hcl := hv.hc
  rw [carN_cr hB]
  obtain ⟨PL, hPL⟩ : ∃ p : Nat, b.places = p := ⟨b.places.toNat, by omega⟩
  have hPn : b.places.toNat = PL := by omega
  rw [hPn] at hp ⊢
  have hnl : (nat l).length = b.cords.length + 1 := by rw [List.length_map]; exact hl
  generalize ht : l.take b.cords.length = t
  have htl : t.length = b.cords.length := by rw [← ht, List.length_take]; omega
  have eq : ∀ n : Nat, Int.tdiv (n : Int) b.base = ((n / b.base.toNat : Nat) : Int) := fun n => by
    obtain ⟨B, hB⟩ : ∃ B : Nat, b.base = B := ⟨b.base.toNat, by omega⟩
    rw [hB]; rfl
  simp (config := { failIfUnchanged := false }) (disch := first | omega | (simp only [List.length_map, List.length_append, List.length_cons, List.length_nil, List.length_take, List.length_drop, cells_int, cells_bool, cells_agg, cells_sl, cells_clo, cells_und, wcs_len, List.length_replicate, List.length_set]; done) | (simp only [List.length_map, List.length_append, List.length_cons, List.length_nil, List.length_take, List.length_drop, cells_int, cells_bool, cells_agg, cells_sl, cells_clo, cells_und, wcs_len, List.length_replicate, List.length_set]; omega)) only [go_sem, ↓reduceIte, reduceCtorEq, Nat.reduceEqDiff, Nat.reduceAdd, Nat.reduceMul, Nat.reduceSub, Nat.reduceLeDiff, Int.reduceEq, Int.reduceLT, Int.reduceLE, Int.reduceAdd, Int.reduceSub, Int.reduceMul, Int.reduceNeg, Int.reduceToNat]
  refine wp_loop' Nat (fun k => ⟨[(1, IS (nat l)), (2, .int place), (3, .ptr 3 0), (7, .int (crT b.base.toNat k t)), (8, .int ((PL : Int) - 1 - k))], [(3, ⟨[.int b.base, .int b.places, .sl 1 (b.cords.map SS) .sh, SS b.top], false⟩)], [], none⟩) (fun k => k ≤ PL - place) (fun k => PL - place - k) 0 (by simp) (by simp (config := { failIfUnchanged := false }) (disch := first | omega | (simp only [List.length_map, List.length_append, List.length_cons, List.length_nil, List.length_take, List.length_drop, cells_int, cells_bool, cells_agg, cells_sl, cells_clo, cells_und, wcs_len, List.length_replicate, List.length_set]; done) | (simp only [List.length_map, List.length_append, List.length_cons, List.length_nil, List.length_take, List.length_drop, cells_int, cells_bool, cells_agg, cells_sl, cells_clo, cells_und, wcs_len, List.length_replicate, List.length_set]; omega)) only [go_sem, ↓reduceIte, reduceCtorEq, Nat.reduceEqDiff, Nat.reduceAdd, Nat.reduceMul, Nat.reduceSub, Nat.reduceLeDiff, Int.reduceEq, Int.reduceLT, Int.reduceLE, Int.reduceAdd, Int.reduceSub, Int.reduceMul, Int.reduceNeg, Int.reduceToNat]; simp [crT, hPL]) ?_
  intro k hk
  have hcr := crT_le hB k t
  have hds := dsum_le hB (b.base.toNat ^ k) t
  have hds2 : t.length * b.base.toNat ≤ 4 * 10 := Nat.mul_le_mul (by omega) (by omega)
  simp (config := { failIfUnchanged := false }) (disch := first | omega | (simp only [List.length_map, List.length_append, List.length_cons, List.length_nil, List.length_take, List.length_drop, cells_int, cells_bool, cells_agg, cells_sl, cells_clo, cells_und, wcs_len, List.length_replicate, List.length_set]; done) | (simp only [List.length_map, List.length_append, List.length_cons, List.length_nil, List.length_take, List.length_drop, cells_int, cells_bool, cells_agg, cells_sl, cells_clo, cells_und, wcs_len, List.length_replicate, List.length_set]; omega)) only [go_sem, ↓reduceIte, reduceCtorEq, Nat.reduceEqDiff, Nat.reduceAdd, Nat.reduceMul, Nat.reduceSub, Nat.reduceLeDiff, Int.reduceEq, Int.reduceLT, Int.reduceLE, Int.reduceAdd, Int.reduceSub, Int.reduceMul, Int.reduceNeg, Int.reduceToNat]
  refine wcond_dec (fun h => ?_) (fun h => ?_)
  · have hk2 : k < PL - place := by omega
    obtain ⟨q, hq⟩ : ∃ q : Nat, (PL : Int) - 1 - k = q := ⟨PL - 1 - k, by omega⟩
    have hqk : PL - 1 - q = k := by omega
    rw [hq]
    simp (config := { failIfUnchanged := false }) (disch := first | omega | (simp only [List.length_map, List.length_append, List.length_cons, List.length_nil, List.length_take, List.length_drop, cells_int, cells_bool, cells_agg, cells_sl, cells_clo, cells_und, wcs_len, List.length_replicate, List.length_set]; done) | (simp only [List.length_map, List.length_append, List.length_cons, List.length_nil, List.length_take, List.length_drop, cells_int, cells_bool, cells_agg, cells_sl, cells_clo, cells_und, wcs_len, List.length_replicate, List.length_set]; omega)) only [go_sem, ↓reduceIte, reduceCtorEq, Nat.reduceEqDiff, Nat.reduceAdd, Nat.reduceMul, Nat.reduceSub, Nat.reduceLeDiff, Int.reduceEq, Int.reduceLT, Int.reduceLE, Int.reduceAdd, Int.reduceSub, Int.reduceMul, Int.reduceNeg, Int.reduceToNat]
    refine wp_loop' Nat (fun i => ⟨[(1, IS (nat l)), (2, .int place), (3, .ptr 3 0), (7, .int (crT b.base.toNat k t + ((t.take i).map (· / b.base.toNat ^ k % b.base.toNat)).sum : Nat)), (8, .int q), (9, .int i)], [(3, ⟨[.int b.base, .int b.places, .sl 1 (b.cords.map SS) .sh, SS b.top], false⟩)], [], none⟩) (fun i => i ≤ b.cords.length) (fun i => b.cords.length - i) 0 (by simp) (by simp (config := { failIfUnchanged := false }) (disch := first | omega | (simp only [List.length_map, List.length_append, List.length_cons, List.length_nil, List.length_take, List.length_drop, cells_int, cells_bool, cells_agg, cells_sl, cells_clo, cells_und, wcs_len, List.length_replicate, List.length_set]; done) | (simp only [List.length_map, List.length_append, List.length_cons, List.length_nil, List.length_take, List.length_drop, cells_int, cells_bool, cells_agg, cells_sl, cells_clo, cells_und, wcs_len, List.length_replicate, List.length_set]; omega)) only [go_sem, ↓reduceIte, reduceCtorEq, Nat.reduceEqDiff, Nat.reduceAdd, Nat.reduceMul, Nat.reduceSub, Nat.reduceLeDiff, Int.reduceEq, Int.reduceLT, Int.reduceLE, Int.reduceAdd, Int.reduceSub, Int.reduceMul, Int.reduceNeg, Int.reduceToNat]; simp) ?_
    intro i hi
    have hds3 := dsum_le hB (b.base.toNat ^ k) (t.take i)
    have hds4 : (t.take i).length * b.base.toNat ≤ 4 * 10 := Nat.mul_le_mul (by rw [List.length_take]; omega) (by omega)
    simp (config := { failIfUnchanged := false }) (disch := first | omega | (simp only [List.length_map, List.length_append, List.length_cons, List.length_nil, List.length_take, List.length_drop, cells_int, cells_bool, cells_agg, cells_sl, cells_clo, cells_und, wcs_len, List.length_replicate, List.length_set]; done) | (simp only [List.length_map, List.length_append, List.length_cons, List.length_nil, List.length_take, List.length_drop, cells_int, cells_bool, cells_agg, cells_sl, cells_clo, cells_und, wcs_len, List.length_replicate, List.length_set]; omega)) only [go_sem, ↓reduceIte, reduceCtorEq, Nat.reduceEqDiff, Nat.reduceAdd, Nat.reduceMul, Nat.reduceSub, Nat.reduceLeDiff, Int.reduceEq, Int.reduceLT, Int.reduceLE, Int.reduceAdd, Int.reduceSub, Int.reduceMul, Int.reduceNeg, Int.reduceToNat]
    refine wcond_dec (fun h2 => ?_) (fun h2 => ?_)
    · have hlt : i < b.cords.length := by omega
      have hxl : l[i]?.getD default < allN b := hsm _ (mem_getD (by omega))
      simp (config := { failIfUnchanged := false }) (disch := first | omega | (simp only [List.length_map, List.length_append, List.length_cons, List.length_nil, List.length_take, List.length_drop, cells_int, cells_bool, cells_agg, cells_sl, cells_clo, cells_und, wcs_len, List.length_replicate, List.length_set]; done) | (simp only [List.length_map, List.length_append, List.length_cons, List.length_nil, List.length_take, List.length_drop, cells_int, cells_bool, cells_agg, cells_sl, cells_clo, cells_und, wcs_len, List.length_replicate, List.length_set]; omega)) only [go_sem, ↓reduceIte, reduceCtorEq, Nat.reduceEqDiff, Nat.reduceAdd, Nat.reduceMul, Nat.reduceSub, Nat.reduceLeDiff, Int.reduceEq, Int.reduceLT, Int.reduceLE, Int.reduceAdd, Int.reduceSub, Int.reduceMul, Int.reduceNeg, Int.reduceToNat, nat_get]
      refine wcall (c69 b hv (l[i]?.getD default) (by omega)) ?_
      have htl2 := tieN_len b.base.toNat b.places.toNat (l[i]?.getD default)
      have eat : (tieN b.base.toNat b.places.toNat (l[i]?.getD default))[q]?.getD default = ((l[i]?.getD default / b.base.toNat ^ k % b.base.toNat : Nat) : Int) := by
        rw [tieN_at _ _ _ _ (by omega), hPn, hqk]
      have hti : t[i]?.getD default = l[i]?.getD default := by
        rw [← ht, List.getElem?_take_of_lt hlt]
      have hsn : ((t.take (i + 1)).map (· / b.base.toNat ^ k % b.base.toNat)).sum = ((t.take i).map (· / b.base.toNat ^ k % b.base.toNat)).sum + l[i]?.getD default / b.base.toNat ^ k % b.base.toNat := by
        rw [take_snoc (by omega), List.map_append, List.sum_append, hti]
        simp
      have hdm : l[i]?.getD default / b.base.toNat ^ k % b.base.toNat < b.base.toNat := Nat.mod_lt _ hB
      generalize l[i]?.getD default / b.base.toNat ^ k % b.base.toNat = dg at *
      generalize ((t.take i).map (· / b.base.toNat ^ k % b.base.toNat)).sum = sm at *
      simp (config := { failIfUnchanged := false }) (disch := first | omega | (simp only [List.length_map, List.length_append, List.length_cons, List.length_nil, List.length_take, List.length_drop, cells_int, cells_bool, cells_agg, cells_sl, cells_clo, cells_und, wcs_len, List.length_replicate, List.length_set]; done) | (simp only [List.length_map, List.length_append, List.length_cons, List.length_nil, List.length_take, List.length_drop, cells_int, cells_bool, cells_agg, cells_sl, cells_clo, cells_und, wcs_len, List.length_replicate, List.length_set]; omega)) only [go_sem, ↓reduceIte, reduceCtorEq, Nat.reduceEqDiff, Nat.reduceAdd, Nat.reduceMul, Nat.reduceSub, Nat.reduceLeDiff, Int.reduceEq, Int.reduceLT, Int.reduceLE, Int.reduceAdd, Int.reduceSub, Int.reduceMul, Int.reduceNeg, Int.reduceToNat, eat]
      refine ⟨i + 1, by omega, by dsimp only; omega, ?_⟩
      dsimp only
      rw [hsn]
      simp (config := { failIfUnchanged := false }) (disch := first | omega | (simp only [List.length_map, List.length_append, List.length_cons, List.length_nil, List.length_take, List.length_drop, cells_int, cells_bool, cells_agg, cells_sl, cells_clo, cells_und, wcs_len, List.length_replicate, List.length_set]; done) | (simp only [List.length_map, List.length_append, List.length_cons, List.length_nil, List.length_take, List.length_drop, cells_int, cells_bool, cells_agg, cells_sl, cells_clo, cells_und, wcs_len, List.length_replicate, List.length_set]; omega)) only [go_sem, ↓reduceIte, reduceCtorEq, Nat.reduceEqDiff, Nat.reduceAdd, Nat.reduceMul, Nat.reduceSub, Nat.reduceLeDiff, Int.reduceEq, Int.reduceLT, Int.reduceLE, Int.reduceAdd, Int.reduceSub, Int.reduceMul, Int.reduceNeg, Int.reduceToNat]
      simp
      try omega
    · have e : i = b.cords.length := by omega
      subst e
      rw [show t.take b.cords.length = t by rw [← htl, List.take_length]]
      simp (config := { failIfUnchanged := false }) (disch := first | omega | (simp only [List.length_map, List.length_append, List.length_cons, List.length_nil, List.length_take, List.length_drop, cells_int, cells_bool, cells_agg, cells_sl, cells_clo, cells_und, wcs_len, List.length_replicate, List.length_set]; done) | (simp only [List.length_map, List.length_append, List.length_cons, List.length_nil, List.length_take, List.length_drop, cells_int, cells_bool, cells_agg, cells_sl, cells_clo, cells_und, wcs_len, List.length_replicate, List.length_set]; omega)) only [go_sem, ↓reduceIte, reduceCtorEq, Nat.reduceEqDiff, Nat.reduceAdd, Nat.reduceMul, Nat.reduceSub, Nat.reduceLeDiff, Int.reduceEq, Int.reduceLT, Int.reduceLE, Int.reduceAdd, Int.reduceSub, Int.reduceMul, Int.reduceNeg, Int.reduceToNat, eq]
      refine ⟨k + 1, by omega, by dsimp only; omega, ?_⟩
      dsimp only
      rw [crT, show (PL : Int) - 1 - (k + 1 : Nat) = (q : Int) - 1 by omega]
      have hdv := Nat.div_le_self (crT b.base.toNat k t + (t.map (· / b.base.toNat ^ k % b.base.toNat)).sum) b.base.toNat
      generalize (crT b.base.toNat k t + (t.map (· / b.base.toNat ^ k % b.base.toNat)).sum) / b.base.toNat = z at hdv ⊢
      simp (config := { failIfUnchanged := false }) (disch := first | omega | (simp only [List.length_map, List.length_append, List.length_cons, List.length_nil, List.length_take, List.length_drop, cells_int, cells_bool, cells_agg, cells_sl, cells_clo, cells_und, wcs_len, List.length_replicate, List.length_set]; done) | (simp only [List.length_map, List.length_append, List.length_cons, List.length_nil, List.length_take, List.length_drop, cells_int, cells_bool, cells_agg, cells_sl, cells_clo, cells_und, wcs_len, List.length_replicate, List.length_set]; omega)) only [go_sem, ↓reduceIte, reduceCtorEq, Nat.reduceEqDiff, Nat.reduceAdd, Nat.reduceMul, Nat.reduceSub, Nat.reduceLeDiff, Int.reduceEq, Int.reduceLT, Int.reduceLE, Int.reduceAdd, Int.reduceSub, Int.reduceMul, Int.reduceNeg, Int.reduceToNat]
  · have e : k = PL - place := by omega
    subst e
    simp (config := { failIfUnchanged := false }) (disch := first | omega | (simp only [List.length_map, List.length_append, List.length_cons, List.length_nil, List.length_take, List.length_drop, cells_int, cells_bool, cells_agg, cells_sl, cells_clo, cells_und, wcs_len, List.length_replicate, List.length_set]; done) | (simp only [List.length_map, List.length_append, List.length_cons, List.length_nil, List.length_take, List.length_drop, cells_int, cells_bool, cells_agg, cells_sl, cells_clo, cells_und, wcs_len, List.length_replicate, List.length_set]; omega)) only [go_sem, ↓reduceIte, reduceCtorEq, Nat.reduceEqDiff, Nat.reduceAdd, Nat.reduceMul, Nat.reduceSub, Nat.reduceLeDiff, Int.reduceEq, Int.reduceLT, Int.reduceLE, Int.reduceAdd, Int.reduceSub, Int.reduceMul, Int.reduceNeg, Int.reduceToNat]

end Go.Proofs.Ytkkiipjfbebipaa

/- The reference's Carry. -/
set_option linter.unusedSimpArgs false
set_option linter.unusedVariables false
set_option linter.unnecessarySimpa false
namespace Go.Proofs.Ytkkiipjfbebipaa
open Go Go.V

/-- What is carried to a place in the lists. -/
def crS (b : Bk) (p : Nat) (m : Nat) : List Int := ((allNs b).take m).map fun l => ((carN b l p : Nat) : Int)

theorem c58 (b : Bk) (hs : Small b) (p : Int) (hlen : checkB b = true → (allS b).length < 4294967296) : Ctr Try.prog 58 [KB b, .int p]
    (if checkB b then if within p 0 (w64 (b.places - 1)) then if (allS b).length = 0 then .tup [SP ⟨0, 0⟩, .int 3] else .tup [SP (spanL (crS b p.toNat (allS b).length) (allS b).length), .int 0] else .tup [SP ⟨0, 0⟩, .int 1] else .tup [SP ⟨0, 0⟩, .int 110]) := by
  refine ctr_of_wp hmix Try.func58 m58 rfl ?_
  unfold v58
  simp (config := { failIfUnchanged := false }) (disch := first | omega | (simp only [List.length_map, List.length_append, List.length_cons, List.length_nil, List.length_take, List.length_drop, cells_int, cells_bool, cells_agg, cells_sl, cells_clo, cells_und, wcs_len, List.length_replicate, List.length_set]; done) | (simp only [List.length_map, List.length_append, List.length_cons, List.length_nil, List.length_take, List.length_drop, cells_int, cells_bool, cells_agg, cells_sl, cells_clo, cells_und, wcs_len, List.length_replicate, List.length_set]; omega)) only [go_sem, ↓reduceIte, reduceCtorEq, Nat.reduceEqDiff, Nat.reduceAdd, Nat.reduceMul, Nat.reduceSub, Nat.reduceLeDiff, Int.reduceEq, Int.reduceLT, Int.reduceLE, Int.reduceAdd, Int.reduceSub, Int.reduceMul, Int.reduceNeg, Int.reduceToNat]
  refine wcall (c30 b p) ?_
  simp (config := { failIfUnchanged := false }) (disch := first | omega | (simp only [List.length_map, List.length_append, List.length_cons, List.length_nil, List.length_take, List.length_drop, cells_int, cells_bool, cells_agg, cells_sl, cells_clo, cells_und, wcs_len, List.length_replicate, List.length_set]; done) | (simp only [List.length_map, List.length_append, List.length_cons, List.length_nil, List.length_take, List.length_drop, cells_int, cells_bool, cells_agg, cells_sl, cells_clo, cells_und, wcs_len, List.length_replicate, List.length_set]; omega)) only [go_sem, ↓reduceIte, reduceCtorEq, Nat.reduceEqDiff, Nat.reduceAdd, Nat.reduceMul, Nat.reduceSub, Nat.reduceLeDiff, Int.reduceEq, Int.reduceLT, Int.reduceLE, Int.reduceAdd, Int.reduceSub, Int.reduceMul, Int.reduceNeg, Int.reduceToNat]
  refine wcall (c96 b hs _ hlen) ?_
  cases hc : checkB b with
  | false => simp (config := { failIfUnchanged := false }) (disch := first | omega | (simp only [List.length_map, List.length_append, List.length_cons, List.length_nil, List.length_take, List.length_drop, cells_int, cells_bool, cells_agg, cells_sl, cells_clo, cells_und, wcs_len, List.length_replicate, List.length_set]; done) | (simp only [List.length_map, List.length_append, List.length_cons, List.length_nil, List.length_take, List.length_drop, cells_int, cells_bool, cells_agg, cells_sl, cells_clo, cells_und, wcs_len, List.length_replicate, List.length_set]; omega)) only [go_sem, ↓reduceIte, reduceCtorEq, Nat.reduceEqDiff, Nat.reduceAdd, Nat.reduceMul, Nat.reduceSub, Nat.reduceLeDiff, Int.reduceEq, Int.reduceLT, Int.reduceLE, Int.reduceAdd, Int.reduceSub, Int.reduceMul, Int.reduceNeg, Int.reduceToNat]
  | true =>
    have hv := val_of_check hc
    obtain ⟨hp1, hp2⟩ := hv.hp
    obtain ⟨hb1, hb2⟩ := hv.hb
    have hall := allN_le hv
    cases hw : within p 0 (w64 (b.places - 1)) with
    | false => simp (config := { failIfUnchanged := false }) (disch := first | omega | (simp only [List.length_map, List.length_append, List.length_cons, List.length_nil, List.length_take, List.length_drop, cells_int, cells_bool, cells_agg, cells_sl, cells_clo, cells_und, wcs_len, List.length_replicate, List.length_set]; done) | (simp only [List.length_map, List.length_append, List.length_cons, List.length_nil, List.length_take, List.length_drop, cells_int, cells_bool, cells_agg, cells_sl, cells_clo, cells_und, wcs_len, List.length_replicate, List.length_set]; omega)) only [go_sem, ↓reduceIte, reduceCtorEq, Nat.reduceEqDiff, Nat.reduceAdd, Nat.reduceMul, Nat.reduceSub, Nat.reduceLeDiff, Int.reduceEq, Int.reduceLT, Int.reduceLE, Int.reduceAdd, Int.reduceSub, Int.reduceMul, Int.reduceNeg, Int.reduceToNat]
    | true =>
      rw [w64_id (by omega)] at hw
      have hp3 : 0 ≤ p ∧ p ≤ b.places - 1 := by simpa [within] using hw
      obtain ⟨q, rfl⟩ : ∃ q : Nat, p = q := ⟨p.toNat, by omega⟩
      have hl2 := hlen hc
      rw [allS_eq] at hl2 ⊢
      simp only [List.length_map] at hl2 ⊢
      have hmem := @allNs_mem b
      generalize hL : allNs b = L at hl2 hmem
      by_cases h0 : L.length = 0
      · simp (config := { failIfUnchanged := false }) (disch := first | omega | (simp only [List.length_map, List.length_append, List.length_cons, List.length_nil, List.length_take, List.length_drop, cells_int, cells_bool, cells_agg, cells_sl, cells_clo, cells_und, wcs_len, List.length_replicate, List.length_set]; done) | (simp only [List.length_map, List.length_append, List.length_cons, List.length_nil, List.length_take, List.length_drop, cells_int, cells_bool, cells_agg, cells_sl, cells_clo, cells_und, wcs_len, List.length_replicate, List.length_set]; omega)) only [go_sem, ↓reduceIte, reduceCtorEq, Nat.reduceEqDiff, Nat.reduceAdd, Nat.reduceMul, Nat.reduceSub, Nat.reduceLeDiff, Int.reduceEq, Int.reduceLT, Int.reduceLE, Int.reduceAdd, Int.reduceSub, Int.reduceMul, Int.reduceNeg, Int.reduceToNat, h0]
      · simp (config := { failIfUnchanged := false }) (disch := first | omega | (simp only [List.length_map, List.length_append, List.length_cons, List.length_nil, List.length_take, List.length_drop, cells_int, cells_bool, cells_agg, cells_sl, cells_clo, cells_und, wcs_len, List.length_replicate, List.length_set]; done) | (simp only [List.length_map, List.length_append, List.length_cons, List.length_nil, List.length_take, List.length_drop, cells_int, cells_bool, cells_agg, cells_sl, cells_clo, cells_und, wcs_len, List.length_replicate, List.length_set]; omega)) only [go_sem, ↓reduceIte, reduceCtorEq, Nat.reduceEqDiff, Nat.reduceAdd, Nat.reduceMul, Nat.reduceSub, Nat.reduceLeDiff, Int.reduceEq, Int.reduceLT, Int.reduceLE, Int.reduceAdd, Int.reduceSub, Int.reduceMul, Int.reduceNeg, Int.reduceToNat, h0]
        refine wp_loop' Nat (fun i => ⟨[(1, .int q), (2, .ptr 2 0), (4, .ptr 4 0), (6, ISS (L.map nat)), (8, .sl 1 ((crS b q i).map .int) (.own 8)), (9, .int i)], [(4, ⟨[.int 0, .int 0], false⟩), (2, ⟨[.int b.base, .int b.places, .sl 1 (b.cords.map SS) .sh, SS b.top], false⟩)], [(8, (crS b q i).length)], none⟩) (fun i => i ≤ L.length) (fun i => L.length - i) 0 (by simp) (by simp (config := { failIfUnchanged := false }) (disch := first | omega | (simp only [List.length_map, List.length_append, List.length_cons, List.length_nil, List.length_take, List.length_drop, cells_int, cells_bool, cells_agg, cells_sl, cells_clo, cells_und, wcs_len, List.length_replicate, List.length_set]; done) | (simp only [List.length_map, List.length_append, List.length_cons, List.length_nil, List.length_take, List.length_drop, cells_int, cells_bool, cells_agg, cells_sl, cells_clo, cells_und, wcs_len, List.length_replicate, List.length_set]; omega)) only [go_sem, ↓reduceIte, reduceCtorEq, Nat.reduceEqDiff, Nat.reduceAdd, Nat.reduceMul, Nat.reduceSub, Nat.reduceLeDiff, Int.reduceEq, Int.reduceLT, Int.reduceLE, Int.reduceAdd, Int.reduceSub, Int.reduceMul, Int.reduceNeg, Int.reduceToNat]; simp [crS]) ?_
        intro i hi
        have hcl : (crS b q i).length = i := by simp [crS, hL]; omega
        simp (config := { failIfUnchanged := false }) (disch := first | omega | (simp only [List.length_map, List.length_append, List.length_cons, List.length_nil, List.length_take, List.length_drop, cells_int, cells_bool, cells_agg, cells_sl, cells_clo, cells_und, wcs_len, List.length_replicate, List.length_set]; done) | (simp only [List.length_map, List.length_append, List.length_cons, List.length_nil, List.length_take, List.length_drop, cells_int, cells_bool, cells_agg, cells_sl, cells_clo, cells_und, wcs_len, List.length_replicate, List.length_set]; omega)) only [go_sem, ↓reduceIte, reduceCtorEq, Nat.reduceEqDiff, Nat.reduceAdd, Nat.reduceMul, Nat.reduceSub, Nat.reduceLeDiff, Int.reduceEq, Int.reduceLT, Int.reduceLE, Int.reduceAdd, Int.reduceSub, Int.reduceMul, Int.reduceNeg, Int.reduceToNat]
        refine wcond_dec (fun h => ?_) (fun h => ?_)
        · have hlt : i < L.length := by omega
          obtain ⟨l, hl⟩ : ∃ l, L[i]? = some l := ⟨L[i], List.getElem?_eq_getElem hlt⟩
          have hlm := hmem (List.mem_of_getElem? hl)
          have e1 : (L.map nat)[i]?.getD default = nat l := by simp [hl]
          simp (config := { failIfUnchanged := false }) (disch := first | omega | (simp only [List.length_map, List.length_append, List.length_cons, List.length_nil, List.length_take, List.length_drop, cells_int, cells_bool, cells_agg, cells_sl, cells_clo, cells_und, wcs_len, List.length_replicate, List.length_set]; done) | (simp only [List.length_map, List.length_append, List.length_cons, List.length_nil, List.length_take, List.length_drop, cells_int, cells_bool, cells_agg, cells_sl, cells_clo, cells_und, wcs_len, List.length_replicate, List.length_set]; omega)) only [go_sem, ↓reduceIte, reduceCtorEq, Nat.reduceEqDiff, Nat.reduceAdd, Nat.reduceMul, Nat.reduceSub, Nat.reduceLeDiff, Int.reduceEq, Int.reduceLT, Int.reduceLE, Int.reduceAdd, Int.reduceSub, Int.reduceMul, Int.reduceNeg, Int.reduceToNat, e1]
          refine wcall (c62 b hv l hlm.1 hlm.2 q (by omega)) ?_
          simp (config := { failIfUnchanged := false }) (disch := first | omega | (simp only [List.length_map, List.length_append, List.length_cons, List.length_nil, List.length_take, List.length_drop, cells_int, cells_bool, cells_agg, cells_sl, cells_clo, cells_und, wcs_len, List.length_replicate, List.length_set]; done) | (simp only [List.length_map, List.length_append, List.length_cons, List.length_nil, List.length_take, List.length_drop, cells_int, cells_bool, cells_agg, cells_sl, cells_clo, cells_und, wcs_len, List.length_replicate, List.length_set]; omega)) only [go_sem, ↓reduceIte, reduceCtorEq, Nat.reduceEqDiff, Nat.reduceAdd, Nat.reduceMul, Nat.reduceSub, Nat.reduceLeDiff, Int.reduceEq, Int.reduceLT, Int.reduceLE, Int.reduceAdd, Int.reduceSub, Int.reduceMul, Int.reduceNeg, Int.reduceToNat]
          have es : crS b q (i + 1) = crS b q i ++ [((carN b l q : Nat) : Int)] := by
            unfold crS
            rw [hL, List.take_add_one, hl]
            simp
          refine ⟨i + 1, by omega, by dsimp only; omega, ?_⟩
          dsimp only
          rw [es]
          simp (config := { failIfUnchanged := false }) (disch := first | omega | (simp only [List.length_map, List.length_append, List.length_cons, List.length_nil, List.length_take, List.length_drop, cells_int, cells_bool, cells_agg, cells_sl, cells_clo, cells_und, wcs_len, List.length_replicate, List.length_set]; done) | (simp only [List.length_map, List.length_append, List.length_cons, List.length_nil, List.length_take, List.length_drop, cells_int, cells_bool, cells_agg, cells_sl, cells_clo, cells_und, wcs_len, List.length_replicate, List.length_set]; omega)) only [go_sem, ↓reduceIte, reduceCtorEq, Nat.reduceEqDiff, Nat.reduceAdd, Nat.reduceMul, Nat.reduceSub, Nat.reduceLeDiff, Int.reduceEq, Int.reduceLT, Int.reduceLE, Int.reduceAdd, Int.reduceSub, Int.reduceMul, Int.reduceNeg, Int.reduceToNat]
          simp
        · simp (config := { failIfUnchanged := false }) (disch := first | omega | (simp only [List.length_map, List.length_append, List.length_cons, List.length_nil, List.length_take, List.length_drop, cells_int, cells_bool, cells_agg, cells_sl, cells_clo, cells_und, wcs_len, List.length_replicate, List.length_set]; done) | (simp only [List.length_map, List.length_append, List.length_cons, List.length_nil, List.length_take, List.length_drop, cells_int, cells_bool, cells_agg, cells_sl, cells_clo, cells_und, wcs_len, List.length_replicate, List.length_set]; omega)) only [go_sem, ↓reduceIte, reduceCtorEq, Nat.reduceEqDiff, Nat.reduceAdd, Nat.reduceMul, Nat.reduceSub, Nat.reduceLeDiff, Int.reduceEq, Int.reduceLT, Int.reduceLE, Int.reduceAdd, Int.reduceSub, Int.reduceMul, Int.reduceNeg, Int.reduceToNat]
          have e : i = L.length := by omega
          subst e
          refine wcall (c97 _ (by omega) (by omega)) ?_
          simp (config := { failIfUnchanged := false }) (disch := first | omega | (simp only [List.length_map, List.length_append, List.length_cons, List.length_nil, List.length_take, List.length_drop, cells_int, cells_bool, cells_agg, cells_sl, cells_clo, cells_und, wcs_len, List.length_replicate, List.length_set]; done) | (simp only [List.length_map, List.length_append, List.length_cons, List.length_nil, List.length_take, List.length_drop, cells_int, cells_bool, cells_agg, cells_sl, cells_clo, cells_und, wcs_len, List.length_replicate, List.length_set]; omega)) only [go_sem, ↓reduceIte, reduceCtorEq, Nat.reduceEqDiff, Nat.reduceAdd, Nat.reduceMul, Nat.reduceSub, Nat.reduceLeDiff, Int.reduceEq, Int.reduceLT, Int.reduceLE, Int.reduceAdd, Int.reduceSub, Int.reduceMul, Int.reduceNeg, Int.reduceToNat]
          rw [hcl]

/-- What the program says is carried. -/
theorem carryD_spF (b : Bk) (p : Nat) : ∀ k, k ≤ 51 → carryD b p k = spF 51 (fun n => 0 < (solveL b yes3 (carryF p n)).r) k ∧ (carryD b p k).hi ≤ k
  | 0, _ => ⟨by simp [carryD, spF], by simp [carryD]⟩
  | k + 1, hk => by
    obtain ⟨h1, h2⟩ := carryD_spF b p k (by omega)
    have e1 : carryD b p (k + 1) = if 0 < (solveL b yes3 (carryF p k)).r then ⟨min (carryD b p k).lo k, k⟩ else carryD b p k := by
      unfold carryD
      rw [List.range_succ, List.foldl_append]
      rfl
    have e2 : spF 51 (fun n => 0 < (solveL b yes3 (carryF p n)).r) (k + 1) = if 0 < (solveL b yes3 (carryF p k)).r then ⟨min (spF 51 (fun n => 0 < (solveL b yes3 (carryF p n)).r) k).lo k, max (spF 51 (fun n => 0 < (solveL b yes3 (carryF p n)).r) k).hi k⟩ else spF 51 (fun n => 0 < (solveL b yes3 (carryF p n)).r) k := by
      unfold spF
      rw [List.range_succ, List.foldl_append]
      rfl
    rw [e1, e2, ← h1]
    split
    · dsimp only
      refine ⟨?_, by omega⟩
      rw [Sp.mk.injEq]
      omega
    · exact ⟨rfl, by omega⟩

theorem allOK_carry {b : Bk} {p n : Nat} (hp : p < b.places.toNat) (l : List Nat) : allOK b yes3 (carryF p n) l = decide (carN b l p = n) := by
  rw [Bool.eq_iff_iff, allOK_iff, decide_eq_true_eq]
  constructor
  · intro h
    have := (h p hp).2
    simp only [carryF, Bool.or_eq_true, decide_eq_true_eq] at this
    rcases this with h | h
    · exact absurd trivial h
    · exact h
  · intro h q hq
    refine ⟨fun _ _ => rfl, ?_⟩
    simp only [carryF, Bool.or_eq_true, decide_eq_true_eq]
    by_cases e : q = p
    · subst e; exact .inr h
    · exact .inl e

theorem carry_eq {b : Bk} (hv : Val b) {p : Nat} (hp : p < b.places.toNat) (hne : 0 < (allNs b).length) : carryD b p 51 = spanL (crS b p (allNs b).length) (allNs b).length := by
  have hB : 0 < b.base.toNat := by have := hv.hb; omega
  have hcr : ∀ l ∈ allNs b, carN b l p < 51 := by
    intro l hl
    have h1 := crT_le hB (b.places.toNat - p) (l.take b.cords.length)
    have h2 := (allNs_mem hl).1
    have := hv.hc
    rw [carN_cr hB]
    rw [List.length_take] at h1
    omega
  have hpos : ∀ n : Nat, 0 < (solveL b yes3 (carryF p n)).r ↔ ∃ l ∈ allNs b, carN b l p = n := by
    intro n
    rw [solveL_r hv]
    have : 0 < ((sumF (allNs b) fun l => if allOK b yes3 (carryF p n) l then 1 else 0 : Nat) : Int) ↔ 0 < sumF (allNs b) fun l => if allOK b yes3 (carryF p n) l then 1 else 0 := by omega
    rw [this, sumF_pos]
    constructor
    · rintro ⟨l, hl, h⟩
      refine ⟨l, hl, ?_⟩
      split at h
      · next h2 => rwa [allOK_carry hp, decide_eq_true_eq] at h2
      · omega
    · rintro ⟨l, hl, h1⟩
      refine ⟨l, hl, ?_⟩
      rw [allOK_carry hp, h1]
      simp
  rw [(carryD_spF b p 51 (Nat.le_refl _)).1]
  have hd : crS b p (allNs b).length = (allNs b).map fun l => ((carN b l p : Nat) : Int) := by
    unfold crS
    rw [List.take_length]
  rcases spF_spec 51 (fun n => 0 < (solveL b yes3 (carryF p n)).r) 51 (by omega) with ⟨h1, _⟩ | ⟨lo, hi, h1, h2, h3, h4, h5, h6⟩
  · exact absurd ((hpos _).2 ⟨(allNs b)[0], List.getElem_mem _, rfl⟩) (h1 _ (hcr _ (List.getElem_mem _)))
  · obtain ⟨l, hl, e1⟩ := (hpos lo).1 h3
    obtain ⟨k, hk, e2⟩ := (hpos hi).1 h4
    have := spanL_uniq (l := (allNs b).map fun l => ((carN b l p : Nat) : Int)) (lo := lo) (hi := hi) (List.mem_map.2 ⟨l, hl, by rw [e1]⟩) (List.mem_map.2 ⟨k, hk, by rw [e2]⟩) (fun x hx => by
      obtain ⟨m, hm, rfl⟩ := List.mem_map.1 hx
      have := h6 _ (hcr m hm) ((hpos _).2 ⟨m, hm, rfl⟩)
      omega)
    rw [List.length_map] at this
    rw [h5, hd, this]

end Go.Proofs.Ytkkiipjfbebipaa

/- KnotsSure. -/
set_option linter.unusedSimpArgs false
set_option linter.unusedVariables false
set_option linter.unnecessarySimpa false
namespace Go.Proofs.Ytkkiipjfbebipaa
open Go Go.V

def ansS (b : Bk) (is : Bool) (v : Sp) : Sp × Int := if checkB b then if is then if (allNs b).length = 0 then (⟨0, 0⟩, 3) else (v, 0) else (⟨0, 0⟩, 1) else (⟨0, 0⟩, 110)

theorem ansR_S {b : Bk} (is : Bool) (u v : Sp) (h : checkB b = true → is = true → 0 < (allNs b).length → u = v) : ansR b is (SP ⟨0, 0⟩) (SP u) = .tup [SP (ansS b is v).1, .int (ansS b is v).2] := by
  unfold ansR ansS
  cases hc : checkB b with
  | false => rfl
  | true =>
    cases is with
    | false => rfl
    | true =>
      rw [if_pos rfl, if_pos rfl, if_pos rfl, if_pos rfl, many_len (val_of_check hc)]
      by_cases h0 : (allNs b).length = 0
      · rw [if_pos (by omega), if_pos h0]
      · rw [if_neg (by omega), if_neg h0, h hc rfl (by omega)]

theorem refR_S {b : Bk} (is : Bool) (v : Nat → Sp) : (if checkB b then if is then if (allS b).length = 0 then AV.tup [SP ⟨0, 0⟩, .int 3] else .tup [SP (v (allS b).length), .int 0] else .tup [SP ⟨0, 0⟩, .int 1] else .tup [SP ⟨0, 0⟩, .int 110]) = .tup [SP (ansS b is (v (allNs b).length)).1, .int (ansS b is (v (allNs b).length)).2] := by
  unfold ansS
  rw [allS_eq, List.length_map]
  cases checkB b with
  | false => rfl
  | true =>
    cases is with
    | false => rfl
    | true =>
      by_cases h0 : (allNs b).length = 0
      · simp [h0]
      · simp [h0]

def sureR (b : Bk) (c : Int) : Sp × Int := ansS b (within c 0 b.cords.length) (spanL (colS b c.toNat (allNs b).length) (allNs b).length)
def clusR (b : Bk) (c p : Int) : Sp × Int := ansS b (within c 0 b.cords.length && within p 0 (w64 (b.places - 1))) (spanL (digS b c.toNat p.toNat (allNs b).length) (allNs b).length)
def carrR (b : Bk) (p : Int) : Sp × Int := ansS b (within p 0 (w64 (b.places - 1))) (spanL (crS b p.toNat (allNs b).length) (allNs b).length)
def manyR2 (b : Bk) : Int × Int := if checkB b then ((allNs b).length, 0) else (0, 110)

theorem c34r (b : Bk) (hs : Small b) : Ctr Try.prog 34 [KB b] (.tup [.int (manyR2 b).1, .int (manyR2 b).2]) := by
  have := c34 b hs
  unfold manyR2
  cases hc : checkB b with
  | false => simpa [hc] using this
  | true =>
    rw [many_len (val_of_check hc)] at this
    simpa [hc] using this

theorem c55r (b : Bk) (hs : Small b) (hlen : checkB b = true → (allS b).length < 4294967296) : Ctr Try.prog 55 [KB b] (.tup [.int (manyR2 b).1, .int (manyR2 b).2]) := by
  have := c55 b hs hlen
  rw [show sumsF b false b.cords.length [] = allS b from rfl, allS_eq, List.length_map] at this
  unfold manyR2
  cases hc : checkB b with
  | false => simpa [hc] using this
  | true => simpa [hc] using this

theorem c35r (b : Bk) (hs : Small b) (c : Int) : Ctr Try.prog 35 [KB b, .int c] (.tup [SP (sureR b c).1, .int (sureR b c).2]) := by
  have := c35 b hs c
  rwa [ansR_S _ _ (spanL (colS b c.toNat (allNs b).length) (allNs b).length) (fun hc hi hne => sure_eq (val_of_check hc) (by simp [within] at hi; omega) hne)] at this

theorem c56r (b : Bk) (hs : Small b) (c : Int) (hlen : checkB b = true → (allS b).length < 4294967296) : Ctr Try.prog 56 [KB b, .int c] (.tup [SP (sureR b c).1, .int (sureR b c).2]) := by
  have := c56 b hs c hlen
  rwa [refR_S _ (fun m => spanL (colS b c.toNat m) m)] at this

theorem in_place {b : Bk} (hc : checkB b = true) {p : Int} (hi : within p 0 (w64 (b.places - 1)) = true) : p.toNat < b.places.toNat := by
  have hv := val_of_check hc
  have := hv.hp
  rw [w64_id (by omega)] at hi
  have : 0 ≤ p ∧ p ≤ b.places - 1 := by simpa [within] using hi
  omega

theorem c39r (b : Bk) (hs : Small b) (c p : Int) : Ctr Try.prog 39 [KB b, .int c, .int p] (.tup [SP (clusR b c p).1, .int (clusR b c p).2]) := by
  have := c39 b hs c p
  rwa [ansR_S _ _ (spanL (digS b c.toNat p.toNat (allNs b).length) (allNs b).length) (fun hc hi hne => by
    rw [Bool.and_eq_true] at hi
    exact cluster_eq (val_of_check hc) (by have h1 := hi.1; simp [within] at h1; omega) (in_place hc hi.2) hne)] at this

theorem c57r (b : Bk) (hs : Small b) (c p : Int) (hlen : checkB b = true → (allS b).length < 4294967296) : Ctr Try.prog 57 [KB b, .int c, .int p] (.tup [SP (clusR b c p).1, .int (clusR b c p).2]) := by
  have := c57 b hs c p hlen
  rwa [refR_S _ (fun m => spanL (digS b c.toNat p.toNat m) m)] at this

theorem c47r (b : Bk) (hs : Small b) (p : Int) : Ctr Try.prog 47 [KB b, .int p] (.tup [SP (carrR b p).1, .int (carrR b p).2]) := by
  have := c47 b hs p
  rwa [ansR_S _ _ (spanL (crS b p.toNat (allNs b).length) (allNs b).length) (fun hc hi hne => carry_eq (val_of_check hc) (in_place hc hi) hne)] at this

theorem c58r (b : Bk) (hs : Small b) (p : Int) (hlen : checkB b = true → (allS b).length < 4294967296) : Ctr Try.prog 58 [KB b, .int p] (.tup [SP (carrR b p).1, .int (carrR b p).2]) := by
  have := c58 b hs p hlen
  rwa [refR_S _ (fun m => spanL (crS b p.toNat m) m)] at this

theorem c13 (b : Bk) (h1 : b.cords.length < 9223372036854775808) (n c p : Int) : Ctr Try.prog 13 [KB b, .agg [.int n, .int c, .int p]] (.bool true) := by
  refine ctr_of_wp hmix Try.func13 m13 rfl ?_
  unfold v13
  simp (config := { failIfUnchanged := false }) (disch := first | omega | (simp [wcs_len] <;> omega) | fail) only [go_sem, ↓reduceIte, reduceCtorEq, Nat.reduceEqDiff, Nat.reduceAdd, Nat.reduceMul, Nat.reduceSub, Nat.reduceLeDiff, Int.reduceEq, Int.reduceLT, Int.reduceLE, Int.reduceAdd, Int.reduceSub, Int.reduceMul, Int.reduceNeg, Int.reduceToNat]
  refine wcall (c16 b h1) ?_
  cases hf : farB b with
  | true =>
    simp (config := { failIfUnchanged := false }) (disch := first | omega | (simp [wcs_len] <;> omega) | fail) only [go_sem, ↓reduceIte, reduceCtorEq, Nat.reduceEqDiff, Nat.reduceAdd, Nat.reduceMul, Nat.reduceSub, Nat.reduceLeDiff, Int.reduceEq, Int.reduceLT, Int.reduceLE, Int.reduceAdd, Int.reduceSub, Int.reduceMul, Int.reduceNeg, Int.reduceToNat]
    refine wcall c17 ?_
    simp (config := { failIfUnchanged := false }) (disch := first | omega | (simp [wcs_len] <;> omega) | fail) only [go_sem, ↓reduceIte, reduceCtorEq, Nat.reduceEqDiff, Nat.reduceAdd, Nat.reduceMul, Nat.reduceSub, Nat.reduceLeDiff, Int.reduceEq, Int.reduceLT, Int.reduceLE, Int.reduceAdd, Int.reduceSub, Int.reduceMul, Int.reduceNeg, Int.reduceToNat]
  | false =>
    obtain ⟨hh, hf2⟩ := far_false hf
    have hs := small_small hh
    obtain ⟨k1, k2, k3⟩ := small_of_huge hh
    have hlen : checkB b = true → (allS b).length < 4294967296 := fun hc => by have := allS_len (val_of_check hc) (hf2 hc).1; omega
    simp (config := { failIfUnchanged := false }) (disch := first | omega | (simp [wcs_len] <;> omega) | fail) only [go_sem, ↓reduceIte, reduceCtorEq, Nat.reduceEqDiff, Nat.reduceAdd, Nat.reduceMul, Nat.reduceSub, Nat.reduceLeDiff, Int.reduceEq, Int.reduceLT, Int.reduceLE, Int.reduceAdd, Int.reduceSub, Int.reduceMul, Int.reduceNeg, Int.reduceToNat]
    refine wcall (c18 b (by omega) (by omega) (fun x hx => by have := k3 x hx; omega)) ?_
    simp (config := { failIfUnchanged := false }) (disch := first | omega | (simp [wcs_len] <;> omega) | fail) only [go_sem, ↓reduceIte, reduceCtorEq, Nat.reduceEqDiff, Nat.reduceAdd, Nat.reduceMul, Nat.reduceSub, Nat.reduceLeDiff, Int.reduceEq, Int.reduceLT, Int.reduceLE, Int.reduceAdd, Int.reduceSub, Int.reduceMul, Int.reduceNeg, Int.reduceToNat]
    refine wcall (c34r b hs) ?_
    simp (config := { failIfUnchanged := false }) (disch := first | omega | (simp [wcs_len] <;> omega) | fail) only [go_sem, ↓reduceIte, reduceCtorEq, Nat.reduceEqDiff, Nat.reduceAdd, Nat.reduceMul, Nat.reduceSub, Nat.reduceLeDiff, Int.reduceEq, Int.reduceLT, Int.reduceLE, Int.reduceAdd, Int.reduceSub, Int.reduceMul, Int.reduceNeg, Int.reduceToNat]
    refine wcall (c55r b hs hlen) ?_
    simp (config := { failIfUnchanged := false }) (disch := first | omega | (simp [wcs_len] <;> omega) | fail) only [go_sem, ↓reduceIte, reduceCtorEq, Nat.reduceEqDiff, Nat.reduceAdd, Nat.reduceMul, Nat.reduceSub, Nat.reduceLeDiff, Int.reduceEq, Int.reduceLT, Int.reduceLE, Int.reduceAdd, Int.reduceSub, Int.reduceMul, Int.reduceNeg, Int.reduceToNat]
    refine wcall (c35r b hs c) ?_
    simp (config := { failIfUnchanged := false }) (disch := first | omega | (simp [wcs_len] <;> omega) | fail) only [go_sem, ↓reduceIte, reduceCtorEq, Nat.reduceEqDiff, Nat.reduceAdd, Nat.reduceMul, Nat.reduceSub, Nat.reduceLeDiff, Int.reduceEq, Int.reduceLT, Int.reduceLE, Int.reduceAdd, Int.reduceSub, Int.reduceMul, Int.reduceNeg, Int.reduceToNat]
    refine wcall (c56r b hs c hlen) ?_
    simp (config := { failIfUnchanged := false }) (disch := first | omega | (simp [wcs_len] <;> omega) | fail) only [go_sem, ↓reduceIte, reduceCtorEq, Nat.reduceEqDiff, Nat.reduceAdd, Nat.reduceMul, Nat.reduceSub, Nat.reduceLeDiff, Int.reduceEq, Int.reduceLT, Int.reduceLE, Int.reduceAdd, Int.reduceSub, Int.reduceMul, Int.reduceNeg, Int.reduceToNat]
    refine wcall (c39r b hs c p) ?_
    simp (config := { failIfUnchanged := false }) (disch := first | omega | (simp [wcs_len] <;> omega) | fail) only [go_sem, ↓reduceIte, reduceCtorEq, Nat.reduceEqDiff, Nat.reduceAdd, Nat.reduceMul, Nat.reduceSub, Nat.reduceLeDiff, Int.reduceEq, Int.reduceLT, Int.reduceLE, Int.reduceAdd, Int.reduceSub, Int.reduceMul, Int.reduceNeg, Int.reduceToNat]
    refine wcall (c57r b hs c p hlen) ?_
    simp (config := { failIfUnchanged := false }) (disch := first | omega | (simp [wcs_len] <;> omega) | fail) only [go_sem, ↓reduceIte, reduceCtorEq, Nat.reduceEqDiff, Nat.reduceAdd, Nat.reduceMul, Nat.reduceSub, Nat.reduceLeDiff, Int.reduceEq, Int.reduceLT, Int.reduceLE, Int.reduceAdd, Int.reduceSub, Int.reduceMul, Int.reduceNeg, Int.reduceToNat]
    refine wcall (c47r b hs p) ?_
    simp (config := { failIfUnchanged := false }) (disch := first | omega | (simp [wcs_len] <;> omega) | fail) only [go_sem, ↓reduceIte, reduceCtorEq, Nat.reduceEqDiff, Nat.reduceAdd, Nat.reduceMul, Nat.reduceSub, Nat.reduceLeDiff, Int.reduceEq, Int.reduceLT, Int.reduceLE, Int.reduceAdd, Int.reduceSub, Int.reduceMul, Int.reduceNeg, Int.reduceToNat]
    refine wcall (c58r b hs p hlen) ?_
    simp (config := { failIfUnchanged := false }) (disch := first | omega | (simp [wcs_len] <;> omega) | fail) only [go_sem, ↓reduceIte, reduceCtorEq, Nat.reduceEqDiff, Nat.reduceAdd, Nat.reduceMul, Nat.reduceSub, Nat.reduceLeDiff, Int.reduceEq, Int.reduceLT, Int.reduceLE, Int.reduceAdd, Int.reduceSub, Int.reduceMul, Int.reduceNeg, Int.reduceToNat]
    refine wcall (c21 b b hs) ?_
    simp (config := { failIfUnchanged := false }) (disch := first | omega | (simp [wcs_len] <;> omega) | fail) only [go_sem, ↓reduceIte, reduceCtorEq, Nat.reduceEqDiff, Nat.reduceAdd, Nat.reduceMul, Nat.reduceSub, Nat.reduceLeDiff, Int.reduceEq, Int.reduceLT, Int.reduceLE, Int.reduceAdd, Int.reduceSub, Int.reduceMul, Int.reduceNeg, Int.reduceToNat]
    refine wcall c17 ?_
    simp (config := { failIfUnchanged := false }) (disch := first | omega | (simp [wcs_len] <;> omega) | fail) only [go_sem, ↓reduceIte, reduceCtorEq, Nat.reduceEqDiff, Nat.reduceAdd, Nat.reduceMul, Nat.reduceSub, Nat.reduceLeDiff, Int.reduceEq, Int.reduceLT, Int.reduceLE, Int.reduceAdd, Int.reduceSub, Int.reduceMul, Int.reduceNeg, Int.reduceToNat]

end Go.Proofs.Ytkkiipjfbebipaa
