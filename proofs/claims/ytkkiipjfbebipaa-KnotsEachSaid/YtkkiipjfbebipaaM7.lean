/- Merged by program: T56. -/
import Derived.Test.YtkkiipjfbebipaaM6
/- KnotsEach. -/
set_option linter.unusedSimpArgs false
set_option linter.unusedVariables false
set_option linter.unnecessarySimpa false
namespace Go.Proofs.Ytkkiipjfbebipaa
open Go Go.V

/-- What is known of a right reading's numbers. -/
theorem sure_in {b : Bk} (hc0 : checkB b = true) {l : List Nat} (hl : l ∈ allNs b) {c : Nat} (hc : c ≤ b.cords.length) :
    ∃ s t : Sp, sureR b c = (s, 0) ∧ cordR b c = (t, 0) ∧ s.lo ≤ ((l[c]?.getD default : Nat) : Int) ∧ ((l[c]?.getD default : Nat) : Int) ≤ s.hi ∧ t.lo ≤ s.lo ∧ s.lo ≤ s.hi ∧ s.hi ≤ t.hi := by
  have hv := val_of_check hc0
  have hpos : 0 < (allNs b).length := List.length_pos_of_mem hl
  have hw : within (c : Int) 0 b.cords.length = true := by simp [within]; omega
  have hcs : colS b c (allNs b).length = (allNs b).map fun l => ((l[c]?.getD default : Nat) : Int) := by
    unfold colS
    rw [List.take_length]
  obtain ⟨⟨l1, hl1, e1⟩, ⟨l2, hl2, e2⟩, h3⟩ := spanL_map (fun l : List Nat => ((l[c]?.getD default : Nat) : Int)) hpos
  refine ⟨spanL ((allNs b).map fun l => ((l[c]?.getD default : Nat) : Int)) (allNs b).length, endsL b.base (cordAt b c), ?_, ?_, ?_⟩
  · unfold sureR ansS
    rw [hc0, hw, if_pos rfl, if_pos rfl, if_neg (by omega), Int.toNat_natCast, hcs]
  · unfold cordR
    rw [hc0, hw, if_pos rfl, if_pos rfl, Int.toNat_natCast]
  · obtain ⟨a1, a2⟩ := h3 l hl
    have b1 := ends_in hv hl1 hc
    have b2 := ends_in hv hl2 hc
    rw [← e1] at b1
    rw [← e2] at b2
    exact ⟨a1, a2, b1.1, by omega, b2.2⟩

theorem clus_in {b : Bk} (hc0 : checkB b = true) {l : List Nat} (hl : l ∈ allNs b) {c p : Nat} (hc : c ≤ b.cords.length) (hp : p < b.places.toNat) :
    ∃ s : Sp, clusR b c p = (s, 0) ∧ s.lo ≤ ((dgN b l c p : Nat) : Int) ∧ ((dgN b l c p : Nat) : Int) ≤ s.hi ∧ ((cordAt b c)[p]?.getD default).lo ≤ s.lo ∧ s.lo ≤ s.hi ∧ s.hi ≤ ((cordAt b c)[p]?.getD default).hi := by
  have hv := val_of_check hc0
  have hpp := hv.hp
  have hpos : 0 < (allNs b).length := List.length_pos_of_mem hl
  have hw : within (c : Int) 0 b.cords.length = true := by simp [within]; omega
  have hw2 : within (p : Int) 0 (w64 (b.places - 1)) = true := by
    rw [w64_id (by omega)]
    simp [within]
    omega
  have hds : digS b c p (allNs b).length = (allNs b).map fun l => ((dgN b l c p : Nat) : Int) := by
    unfold digS
    rw [List.take_length]
    exact List.map_congr_left fun l _ => tieN_at _ _ _ _ hp
  have hfit : ∀ l ∈ allNs b, ((cordAt b c)[p]?.getD default).lo ≤ ((dgN b l c p : Nat) : Int) ∧ ((dgN b l c p : Nat) : Int) ≤ ((cordAt b c)[p]?.getD default).hi := by
    intro l hl
    have hf := all_fits hl hc
    have h1 := (cordAt_val hv hc).1
    unfold fitsL at hf
    rw [List.all_eq_true] at hf
    have := hf p (by rw [List.mem_range]; omega)
    rw [tieN_at _ _ _ _ hp] at this
    simpa [within, dgN] using this
  obtain ⟨⟨l1, hl1, e1⟩, ⟨l2, hl2, e2⟩, h3⟩ := spanL_map (fun l : List Nat => ((dgN b l c p : Nat) : Int)) hpos
  refine ⟨spanL ((allNs b).map fun l => ((dgN b l c p : Nat) : Int)) (allNs b).length, ?_, ?_⟩
  · unfold clusR ansS
    rw [hc0, hw, hw2, if_pos rfl, Bool.and_self, if_pos rfl, if_neg (by omega), Int.toNat_natCast, Int.toNat_natCast, hds]
  · obtain ⟨a1, a2⟩ := h3 l hl
    have b1 := hfit l1 hl1
    have b2 := hfit l2 hl2
    rw [← e1] at b1
    rw [← e2] at b2
    exact ⟨a1, a2, b1.1, by omega, b2.2⟩

theorem carr_in {b : Bk} (hc0 : checkB b = true) {l : List Nat} (hl : l ∈ allNs b) {p : Nat} (hp : p < b.places.toNat) :
    ∃ s : Sp, carrR b p = (s, 0) ∧ s.lo ≤ ((carN b l p : Nat) : Int) ∧ ((carN b l p : Nat) : Int) ≤ s.hi := by
  have hv := val_of_check hc0
  have hpp := hv.hp
  have hpos : 0 < (allNs b).length := List.length_pos_of_mem hl
  have hw2 : within (p : Int) 0 (w64 (b.places - 1)) = true := by
    rw [w64_id (by omega)]
    simp [within]
    omega
  have hds : crS b p (allNs b).length = (allNs b).map fun l => ((carN b l p : Nat) : Int) := by
    unfold crS
    rw [List.take_length]
  obtain ⟨_, _, h3⟩ := spanL_map (fun l : List Nat => ((carN b l p : Nat) : Int)) hpos
  refine ⟨spanL ((allNs b).map fun l => ((carN b l p : Nat) : Int)) (allNs b).length, ?_, h3 l hl⟩
  unfold carrR ansS
  rw [hc0, hw2, if_pos rfl, if_pos rfl, if_neg (by omega), Int.toNat_natCast, hds]

theorem c31 (a c : Sp) : Ctr Try.prog 31 [SP a, SP c] (.bool (decide (c.lo ≤ a.lo) && (decide (a.lo ≤ a.hi) && decide (a.hi ≤ c.hi)))) := by
  refine ctr_of_wp hmix Try.func31 m31 rfl ?_
  unfold v31
  simp (config := { failIfUnchanged := false }) (disch := first | omega | (simp only [List.length_map, List.length_append, List.length_cons, List.length_nil, List.length_take, List.length_drop, cells_int, cells_bool, cells_agg, cells_sl, cells_clo, cells_und, wcs_len, List.length_replicate, List.length_set]; done) | (simp only [List.length_map, List.length_append, List.length_cons, List.length_nil, List.length_take, List.length_drop, cells_int, cells_bool, cells_agg, cells_sl, cells_clo, cells_und, wcs_len, List.length_replicate, List.length_set]; omega)) only [go_sem, ↓reduceIte, reduceCtorEq, Nat.reduceEqDiff, Nat.reduceAdd, Nat.reduceMul, Nat.reduceSub, Nat.reduceLeDiff, Int.reduceEq, Int.reduceLT, Int.reduceLE, Int.reduceAdd, Int.reduceSub, Int.reduceMul, Int.reduceNeg, Int.reduceToNat]
  refine WGd_bool (fun h1 => ?_) (fun h1 => ?_)
  · simp (config := { failIfUnchanged := false }) (disch := first | omega | (simp only [List.length_map, List.length_append, List.length_cons, List.length_nil, List.length_take, List.length_drop, cells_int, cells_bool, cells_agg, cells_sl, cells_clo, cells_und, wcs_len, List.length_replicate, List.length_set]; done) | (simp only [List.length_map, List.length_append, List.length_cons, List.length_nil, List.length_take, List.length_drop, cells_int, cells_bool, cells_agg, cells_sl, cells_clo, cells_und, wcs_len, List.length_replicate, List.length_set]; omega)) only [go_sem, ↓reduceIte, reduceCtorEq, Nat.reduceEqDiff, Nat.reduceAdd, Nat.reduceMul, Nat.reduceSub, Nat.reduceLeDiff, Int.reduceEq, Int.reduceLT, Int.reduceLE, Int.reduceAdd, Int.reduceSub, Int.reduceMul, Int.reduceNeg, Int.reduceToNat, h1]
    refine WGd_bool (fun h2 => ?_) (fun h2 => ?_)
    · simp (config := { failIfUnchanged := false }) (disch := first | omega | (simp only [List.length_map, List.length_append, List.length_cons, List.length_nil, List.length_take, List.length_drop, cells_int, cells_bool, cells_agg, cells_sl, cells_clo, cells_und, wcs_len, List.length_replicate, List.length_set]; done) | (simp only [List.length_map, List.length_append, List.length_cons, List.length_nil, List.length_take, List.length_drop, cells_int, cells_bool, cells_agg, cells_sl, cells_clo, cells_und, wcs_len, List.length_replicate, List.length_set]; omega)) only [go_sem, ↓reduceIte, reduceCtorEq, Nat.reduceEqDiff, Nat.reduceAdd, Nat.reduceMul, Nat.reduceSub, Nat.reduceLeDiff, Int.reduceEq, Int.reduceLT, Int.reduceLE, Int.reduceAdd, Int.reduceSub, Int.reduceMul, Int.reduceNeg, Int.reduceToNat, h1, h2]
    · simp (config := { failIfUnchanged := false }) (disch := first | omega | (simp only [List.length_map, List.length_append, List.length_cons, List.length_nil, List.length_take, List.length_drop, cells_int, cells_bool, cells_agg, cells_sl, cells_clo, cells_und, wcs_len, List.length_replicate, List.length_set]; done) | (simp only [List.length_map, List.length_append, List.length_cons, List.length_nil, List.length_take, List.length_drop, cells_int, cells_bool, cells_agg, cells_sl, cells_clo, cells_und, wcs_len, List.length_replicate, List.length_set]; omega)) only [go_sem, ↓reduceIte, reduceCtorEq, Nat.reduceEqDiff, Nat.reduceAdd, Nat.reduceMul, Nat.reduceSub, Nat.reduceLeDiff, Int.reduceEq, Int.reduceLT, Int.reduceLE, Int.reduceAdd, Int.reduceSub, Int.reduceMul, Int.reduceNeg, Int.reduceToNat, h1, h2]
  · simp (config := { failIfUnchanged := false }) (disch := first | omega | (simp only [List.length_map, List.length_append, List.length_cons, List.length_nil, List.length_take, List.length_drop, cells_int, cells_bool, cells_agg, cells_sl, cells_clo, cells_und, wcs_len, List.length_replicate, List.length_set]; done) | (simp only [List.length_map, List.length_append, List.length_cons, List.length_nil, List.length_take, List.length_drop, cells_int, cells_bool, cells_agg, cells_sl, cells_clo, cells_und, wcs_len, List.length_replicate, List.length_set]; omega)) only [go_sem, ↓reduceIte, reduceCtorEq, Nat.reduceEqDiff, Nat.reduceAdd, Nat.reduceMul, Nat.reduceSub, Nat.reduceLeDiff, Int.reduceEq, Int.reduceLT, Int.reduceLE, Int.reduceAdd, Int.reduceSub, Int.reduceMul, Int.reduceNeg, Int.reduceToNat, h1]

theorem c15 (b : Bk) (h1 : b.cords.length < 9223372036854775808) (r : List (List Int)) (hr : r.length < 9223372036854775808) (hd : ∀ l ∈ r, l.length < 9223372036854775808) : Ctr Try.prog 15 [KB b, RS r] (.bool true) := by
  refine ctr_of_wp hmix Try.func15 m15 rfl ?_
  unfold v15
  simp (config := { failIfUnchanged := false }) (disch := first | omega | (simp only [List.length_map, List.length_append, List.length_cons, List.length_nil, List.length_take, List.length_drop, cells_int, cells_bool, cells_agg, cells_sl, cells_clo, cells_und, wcs_len, List.length_replicate, List.length_set]; done) | (simp only [List.length_map, List.length_append, List.length_cons, List.length_nil, List.length_take, List.length_drop, cells_int, cells_bool, cells_agg, cells_sl, cells_clo, cells_und, wcs_len, List.length_replicate, List.length_set]; omega)) only [go_sem, ↓reduceIte, reduceCtorEq, Nat.reduceEqDiff, Nat.reduceAdd, Nat.reduceMul, Nat.reduceSub, Nat.reduceLeDiff, Int.reduceEq, Int.reduceLT, Int.reduceLE, Int.reduceAdd, Int.reduceSub, Int.reduceMul, Int.reduceNeg, Int.reduceToNat]
  refine wcall (c28 b h1) ?_
  cases hrd : (!hugeB b && checkB b) with
  | false =>
    simp (config := { failIfUnchanged := false }) (disch := first | omega | (simp only [List.length_map, List.length_append, List.length_cons, List.length_nil, List.length_take, List.length_drop, cells_int, cells_bool, cells_agg, cells_sl, cells_clo, cells_und, wcs_len, List.length_replicate, List.length_set]; done) | (simp only [List.length_map, List.length_append, List.length_cons, List.length_nil, List.length_take, List.length_drop, cells_int, cells_bool, cells_agg, cells_sl, cells_clo, cells_und, wcs_len, List.length_replicate, List.length_set]; omega)) only [go_sem, ↓reduceIte, reduceCtorEq, Nat.reduceEqDiff, Nat.reduceAdd, Nat.reduceMul, Nat.reduceSub, Nat.reduceLeDiff, Int.reduceEq, Int.reduceLT, Int.reduceLE, Int.reduceAdd, Int.reduceSub, Int.reduceMul, Int.reduceNeg, Int.reduceToNat]
    refine wcall c17 ?_
    simp (config := { failIfUnchanged := false }) (disch := first | omega | (simp only [List.length_map, List.length_append, List.length_cons, List.length_nil, List.length_take, List.length_drop, cells_int, cells_bool, cells_agg, cells_sl, cells_clo, cells_und, wcs_len, List.length_replicate, List.length_set]; done) | (simp only [List.length_map, List.length_append, List.length_cons, List.length_nil, List.length_take, List.length_drop, cells_int, cells_bool, cells_agg, cells_sl, cells_clo, cells_und, wcs_len, List.length_replicate, List.length_set]; omega)) only [go_sem, ↓reduceIte, reduceCtorEq, Nat.reduceEqDiff, Nat.reduceAdd, Nat.reduceMul, Nat.reduceSub, Nat.reduceLeDiff, Int.reduceEq, Int.reduceLT, Int.reduceLE, Int.reduceAdd, Int.reduceSub, Int.reduceMul, Int.reduceNeg, Int.reduceToNat]
  | true =>
    simp only [Bool.and_eq_true, Bool.not_eq_true'] at hrd
    obtain ⟨hh, hc0⟩ := hrd
    have hs := small_small hh
    have hv := val_of_check hc0
    have hcl := hv.hc
    simp (config := { failIfUnchanged := false }) (disch := first | omega | (simp only [List.length_map, List.length_append, List.length_cons, List.length_nil, List.length_take, List.length_drop, cells_int, cells_bool, cells_agg, cells_sl, cells_clo, cells_und, wcs_len, List.length_replicate, List.length_set]; done) | (simp only [List.length_map, List.length_append, List.length_cons, List.length_nil, List.length_take, List.length_drop, cells_int, cells_bool, cells_agg, cells_sl, cells_clo, cells_und, wcs_len, List.length_replicate, List.length_set]; omega)) only [go_sem, ↓reduceIte, reduceCtorEq, Nat.reduceEqDiff, Nat.reduceAdd, Nat.reduceMul, Nat.reduceSub, Nat.reduceLeDiff, Int.reduceEq, Int.reduceLT, Int.reduceLE, Int.reduceAdd, Int.reduceSub, Int.reduceMul, Int.reduceNeg, Int.reduceToNat]
    refine WGd_bool (fun h40 => ?_) (fun h40 => ?_)
    · have h40' : r.length ≤ 40 := by simp at h40; omega
      simp (config := { failIfUnchanged := false }) (disch := first | omega | (simp only [List.length_map, List.length_append, List.length_cons, List.length_nil, List.length_take, List.length_drop, cells_int, cells_bool, cells_agg, cells_sl, cells_clo, cells_und, wcs_len, List.length_replicate, List.length_set]; done) | (simp only [List.length_map, List.length_append, List.length_cons, List.length_nil, List.length_take, List.length_drop, cells_int, cells_bool, cells_agg, cells_sl, cells_clo, cells_und, wcs_len, List.length_replicate, List.length_set]; omega)) only [go_sem, ↓reduceIte, reduceCtorEq, Nat.reduceEqDiff, Nat.reduceAdd, Nat.reduceMul, Nat.reduceSub, Nat.reduceLeDiff, Int.reduceEq, Int.reduceLT, Int.reduceLE, Int.reduceAdd, Int.reduceSub, Int.reduceMul, Int.reduceNeg, Int.reduceToNat, h40]
      refine wcall (c61 b hv hs r hr hd) ?_
      cases hri : isRightB b r with
      | false =>
        simp (config := { failIfUnchanged := false }) (disch := first | omega | (simp only [List.length_map, List.length_append, List.length_cons, List.length_nil, List.length_take, List.length_drop, cells_int, cells_bool, cells_agg, cells_sl, cells_clo, cells_und, wcs_len, List.length_replicate, List.length_set]; done) | (simp only [List.length_map, List.length_append, List.length_cons, List.length_nil, List.length_take, List.length_drop, cells_int, cells_bool, cells_agg, cells_sl, cells_clo, cells_und, wcs_len, List.length_replicate, List.length_set]; omega)) only [go_sem, ↓reduceIte, reduceCtorEq, Nat.reduceEqDiff, Nat.reduceAdd, Nat.reduceMul, Nat.reduceSub, Nat.reduceLeDiff, Int.reduceEq, Int.reduceLT, Int.reduceLE, Int.reduceAdd, Int.reduceSub, Int.reduceMul, Int.reduceNeg, Int.reduceToNat]
        refine wcall c17 ?_
        simp (config := { failIfUnchanged := false }) (disch := first | omega | (simp only [List.length_map, List.length_append, List.length_cons, List.length_nil, List.length_take, List.length_drop, cells_int, cells_bool, cells_agg, cells_sl, cells_clo, cells_und, wcs_len, List.length_replicate, List.length_set]; done) | (simp only [List.length_map, List.length_append, List.length_cons, List.length_nil, List.length_take, List.length_drop, cells_int, cells_bool, cells_agg, cells_sl, cells_clo, cells_und, wcs_len, List.length_replicate, List.length_set]; omega)) only [go_sem, ↓reduceIte, reduceCtorEq, Nat.reduceEqDiff, Nat.reduceAdd, Nat.reduceMul, Nat.reduceSub, Nat.reduceLeDiff, Int.reduceEq, Int.reduceLT, Int.reduceLE, Int.reduceAdd, Int.reduceSub, Int.reduceMul, Int.reduceNeg, Int.reduceToNat]
      | true =>
        obtain ⟨hlen, hin, hrow⟩ := right_in hv hri
        have hpos : 0 < (allNs b).length := List.length_pos_of_mem hin
        have hpl := hv.hp
        have hl4 : ∀ x ∈ r, x.length ≤ 4 := by
          intro x hx
          obtain ⟨c, hc, rfl⟩ := List.mem_iff_getElem.1 hx
          have := areDig_len hv (hrow c (by omega)).1
          rwa [List.getElem?_eq_getElem hc] at this
        have hnm : ∀ i, i < r.length → (nat ((r.map (nmL b)).take (i + 1))).map AV.int = (nat ((r.map (nmL b)).take i)).map AV.int ++ [.int (nmL b (r[i]?.getD default) : Nat)] := by
          intro i hi
          rw [take_snoc (by rw [List.length_map]; exact hi), (hrow i (by omega)).2.2.1]
          simp
        have hrt : ∀ i, i < r.length → (r.take (i + 1)).map IS = (r.take i).map IS ++ [IS (r[i]?.getD default)] := by
          intro i hi
          rw [take_snoc hi, List.map_append]
          rfl
        generalize hN : r.map (nmL b) = N at *
        have hNl : N.length = r.length := by rw [← hN, List.length_map]
        have hNs : ∀ x ∈ N, x < allN b := (allNs_mem hin).2
        simp (config := { failIfUnchanged := false }) (disch := first | omega | (simp only [List.length_map, List.length_append, List.length_cons, List.length_nil, List.length_take, List.length_drop, cells_int, cells_bool, cells_agg, cells_sl, cells_clo, cells_und, wcs_len, List.length_replicate, List.length_set]; done) | (simp only [List.length_map, List.length_append, List.length_cons, List.length_nil, List.length_take, List.length_drop, cells_int, cells_bool, cells_agg, cells_sl, cells_clo, cells_und, wcs_len, List.length_replicate, List.length_set]; omega)) only [go_sem, ↓reduceIte, reduceCtorEq, Nat.reduceEqDiff, Nat.reduceAdd, Nat.reduceMul, Nat.reduceSub, Nat.reduceLeDiff, Int.reduceEq, Int.reduceLT, Int.reduceLE, Int.reduceAdd, Int.reduceSub, Int.reduceMul, Int.reduceNeg, Int.reduceToNat]
        refine wp_loop' Nat (fun i => ⟨[(1, RS r), (2, .ptr 2 0), (5, .sl 1 ((r.take i).map IS) (.own 5)), (6, .sl 1 ((nat (N.take i)).map .int) (.own 6)), (7, .int i)], [(2, ⟨[.int b.base, .int b.places, .sl 1 (b.cords.map SS) .sh, SS b.top], false⟩)], [(6, i), (5, i)], none⟩) (fun i => i ≤ r.length) (fun i => r.length - i) 0 (by simp) (by simp (config := { failIfUnchanged := false }) (disch := first | omega | (simp only [List.length_map, List.length_append, List.length_cons, List.length_nil, List.length_take, List.length_drop, cells_int, cells_bool, cells_agg, cells_sl, cells_clo, cells_und, wcs_len, List.length_replicate, List.length_set]; done) | (simp only [List.length_map, List.length_append, List.length_cons, List.length_nil, List.length_take, List.length_drop, cells_int, cells_bool, cells_agg, cells_sl, cells_clo, cells_und, wcs_len, List.length_replicate, List.length_set]; omega)) only [go_sem, ↓reduceIte, reduceCtorEq, Nat.reduceEqDiff, Nat.reduceAdd, Nat.reduceMul, Nat.reduceSub, Nat.reduceLeDiff, Int.reduceEq, Int.reduceLT, Int.reduceLE, Int.reduceAdd, Int.reduceSub, Int.reduceMul, Int.reduceNeg, Int.reduceToNat]; simp) ?_
        intro i hi
        have hm1 : min i r.length = i := by omega
        have hm2 : min i N.length = i := by omega
        simp (config := { failIfUnchanged := false }) (disch := first | omega | (simp only [List.length_map, List.length_append, List.length_cons, List.length_nil, List.length_take, List.length_drop, cells_int, cells_bool, cells_agg, cells_sl, cells_clo, cells_und, wcs_len, List.length_replicate, List.length_set]; done) | (simp only [List.length_map, List.length_append, List.length_cons, List.length_nil, List.length_take, List.length_drop, cells_int, cells_bool, cells_agg, cells_sl, cells_clo, cells_und, wcs_len, List.length_replicate, List.length_set]; omega)) only [go_sem, ↓reduceIte, reduceCtorEq, Nat.reduceEqDiff, Nat.reduceAdd, Nat.reduceMul, Nat.reduceSub, Nat.reduceLeDiff, Int.reduceEq, Int.reduceLT, Int.reduceLE, Int.reduceAdd, Int.reduceSub, Int.reduceMul, Int.reduceNeg, Int.reduceToNat]
        refine wcond_dec (fun h2 => ?_) (fun h2 => ?_)
        · have hlt : i < r.length := by omega
          have hxl := hl4 _ (mem_getD hlt)
          have hnl : ((nat (N.take i)).map AV.int).length = i := by simp [hm2]
          simp (config := { failIfUnchanged := false }) (disch := first | omega | (simp only [List.length_map, List.length_append, List.length_cons, List.length_nil, List.length_take, List.length_drop, cells_int, cells_bool, cells_agg, cells_sl, cells_clo, cells_und, wcs_len, List.length_replicate, List.length_set]; done) | (simp only [List.length_map, List.length_append, List.length_cons, List.length_nil, List.length_take, List.length_drop, cells_int, cells_bool, cells_agg, cells_sl, cells_clo, cells_und, wcs_len, List.length_replicate, List.length_set]; omega)) only [go_sem, ↓reduceIte, reduceCtorEq, Nat.reduceEqDiff, Nat.reduceAdd, Nat.reduceMul, Nat.reduceSub, Nat.reduceLeDiff, Int.reduceEq, Int.reduceLT, Int.reduceLE, Int.reduceAdd, Int.reduceSub, Int.reduceMul, Int.reduceNeg, Int.reduceToNat]
          refine ⟨by rw [List.length_take, hm1], ?_⟩
          refine wcall (c46 b _ (by omega)) ?_
          rw [(hrow i (by omega)).2.1]
          simp (config := { failIfUnchanged := false }) (disch := first | omega | (simp only [List.length_map, List.length_append, List.length_cons, List.length_nil, List.length_take, List.length_drop, cells_int, cells_bool, cells_agg, cells_sl, cells_clo, cells_und, wcs_len, List.length_replicate, List.length_set]; done) | (simp only [List.length_map, List.length_append, List.length_cons, List.length_nil, List.length_take, List.length_drop, cells_int, cells_bool, cells_agg, cells_sl, cells_clo, cells_und, wcs_len, List.length_replicate, List.length_set]; omega)) only [go_sem, ↓reduceIte, reduceCtorEq, Nat.reduceEqDiff, Nat.reduceAdd, Nat.reduceMul, Nat.reduceSub, Nat.reduceLeDiff, Int.reduceEq, Int.reduceLT, Int.reduceLE, Int.reduceAdd, Int.reduceSub, Int.reduceMul, Int.reduceNeg, Int.reduceToNat]
          refine ⟨by simp [hm2], ?_⟩
          refine ⟨i + 1, by omega, by dsimp only; omega, ?_⟩
          dsimp only
          rw [hnm i hlt, hrt i hlt]
          simp (config := { failIfUnchanged := false }) (disch := first | omega | (simp only [List.length_map, List.length_append, List.length_cons, List.length_nil, List.length_take, List.length_drop, cells_int, cells_bool, cells_agg, cells_sl, cells_clo, cells_und, wcs_len, List.length_replicate, List.length_set]; done) | (simp only [List.length_map, List.length_append, List.length_cons, List.length_nil, List.length_take, List.length_drop, cells_int, cells_bool, cells_agg, cells_sl, cells_clo, cells_und, wcs_len, List.length_replicate, List.length_set]; omega)) only [go_sem, ↓reduceIte, reduceCtorEq, Nat.reduceEqDiff, Nat.reduceAdd, Nat.reduceMul, Nat.reduceSub, Nat.reduceLeDiff, Int.reduceEq, Int.reduceLT, Int.reduceLE, Int.reduceAdd, Int.reduceSub, Int.reduceMul, Int.reduceNeg, Int.reduceToNat]
          simp [hm1, hm2]
        · have e : i = r.length := by omega
          subst e
          have e2 : N.take r.length = N := by rw [← hNl, List.take_length]
          rw [List.take_length, e2]
          simp (config := { failIfUnchanged := false }) (disch := first | omega | (simp only [List.length_map, List.length_append, List.length_cons, List.length_nil, List.length_take, List.length_drop, cells_int, cells_bool, cells_agg, cells_sl, cells_clo, cells_und, wcs_len, List.length_replicate, List.length_set]; done) | (simp only [List.length_map, List.length_append, List.length_cons, List.length_nil, List.length_take, List.length_drop, cells_int, cells_bool, cells_agg, cells_sl, cells_clo, cells_und, wcs_len, List.length_replicate, List.length_set]; omega)) only [go_sem, ↓reduceIte, reduceCtorEq, Nat.reduceEqDiff, Nat.reduceAdd, Nat.reduceMul, Nat.reduceSub, Nat.reduceLeDiff, Int.reduceEq, Int.reduceLT, Int.reduceLE, Int.reduceAdd, Int.reduceSub, Int.reduceMul, Int.reduceNeg, Int.reduceToNat]
          refine wcall (c59 b hs (by omega) r (by omega) (fun x hx => by have := hl4 x hx; omega)) ?_
          rw [show rightR b r = (true, 0) by simp [rightR, hc0, hri]]
          simp (config := { failIfUnchanged := false }) (disch := first | omega | (simp only [List.length_map, List.length_append, List.length_cons, List.length_nil, List.length_take, List.length_drop, cells_int, cells_bool, cells_agg, cells_sl, cells_clo, cells_und, wcs_len, List.length_replicate, List.length_set]; done) | (simp only [List.length_map, List.length_append, List.length_cons, List.length_nil, List.length_take, List.length_drop, cells_int, cells_bool, cells_agg, cells_sl, cells_clo, cells_und, wcs_len, List.length_replicate, List.length_set]; omega)) only [go_sem, ↓reduceIte, reduceCtorEq, Nat.reduceEqDiff, Nat.reduceAdd, Nat.reduceMul, Nat.reduceSub, Nat.reduceLeDiff, Int.reduceEq, Int.reduceLT, Int.reduceLE, Int.reduceAdd, Int.reduceSub, Int.reduceMul, Int.reduceNeg, Int.reduceToNat]
          refine wcall (c34r b hs) ?_
          rw [show manyR2 b = (((allNs b).length : Int), (0 : Int)) by simp [manyR2, hc0]]
          have hlt1 : ¬ ((allNs b).length : Int) < 1 := by omega
          simp (config := { failIfUnchanged := false }) (disch := first | omega | (simp only [List.length_map, List.length_append, List.length_cons, List.length_nil, List.length_take, List.length_drop, cells_int, cells_bool, cells_agg, cells_sl, cells_clo, cells_und, wcs_len, List.length_replicate, List.length_set]; done) | (simp only [List.length_map, List.length_append, List.length_cons, List.length_nil, List.length_take, List.length_drop, cells_int, cells_bool, cells_agg, cells_sl, cells_clo, cells_und, wcs_len, List.length_replicate, List.length_set]; omega)) only [go_sem, ↓reduceIte, reduceCtorEq, Nat.reduceEqDiff, Nat.reduceAdd, Nat.reduceMul, Nat.reduceSub, Nat.reduceLeDiff, Int.reduceEq, Int.reduceLT, Int.reduceLE, Int.reduceAdd, Int.reduceSub, Int.reduceMul, Int.reduceNeg, Int.reduceToNat]
          refine wcond_dec (fun h3 => ?_) (fun h3 => ?_)
          · exact absurd h3 hlt1
          simp (config := { failIfUnchanged := false }) (disch := first | omega | (simp only [List.length_map, List.length_append, List.length_cons, List.length_nil, List.length_take, List.length_drop, cells_int, cells_bool, cells_agg, cells_sl, cells_clo, cells_und, wcs_len, List.length_replicate, List.length_set]; done) | (simp only [List.length_map, List.length_append, List.length_cons, List.length_nil, List.length_take, List.length_drop, cells_int, cells_bool, cells_agg, cells_sl, cells_clo, cells_und, wcs_len, List.length_replicate, List.length_set]; omega)) only [go_sem, ↓reduceIte, reduceCtorEq, Nat.reduceEqDiff, Nat.reduceAdd, Nat.reduceMul, Nat.reduceSub, Nat.reduceLeDiff, Int.reduceEq, Int.reduceLT, Int.reduceLE, Int.reduceAdd, Int.reduceSub, Int.reduceMul, Int.reduceNeg, Int.reduceToNat]
          refine wp_loop' Nat (fun c => ⟨[(1, RS r), (2, .ptr 2 0), (6, .sl 1 ((nat N).map .int) (.own 6)), (12, .int c)], [(2, ⟨[.int b.base, .int b.places, .sl 1 (b.cords.map SS) .sh, SS b.top], false⟩)], [(6, r.length)], none⟩) (fun c => c ≤ r.length) (fun c => r.length - c) 0 (by simp) (by simp (config := { failIfUnchanged := false }) (disch := first | omega | (simp only [List.length_map, List.length_append, List.length_cons, List.length_nil, List.length_take, List.length_drop, cells_int, cells_bool, cells_agg, cells_sl, cells_clo, cells_und, wcs_len, List.length_replicate, List.length_set]; done) | (simp only [List.length_map, List.length_append, List.length_cons, List.length_nil, List.length_take, List.length_drop, cells_int, cells_bool, cells_agg, cells_sl, cells_clo, cells_und, wcs_len, List.length_replicate, List.length_set]; omega)) only [go_sem, ↓reduceIte, reduceCtorEq, Nat.reduceEqDiff, Nat.reduceAdd, Nat.reduceMul, Nat.reduceSub, Nat.reduceLeDiff, Int.reduceEq, Int.reduceLT, Int.reduceLE, Int.reduceAdd, Int.reduceSub, Int.reduceMul, Int.reduceNeg, Int.reduceToNat]; simp) ?_
          intro c hcc
          simp (config := { failIfUnchanged := false }) (disch := first | omega | (simp only [List.length_map, List.length_append, List.length_cons, List.length_nil, List.length_take, List.length_drop, cells_int, cells_bool, cells_agg, cells_sl, cells_clo, cells_und, wcs_len, List.length_replicate, List.length_set]; done) | (simp only [List.length_map, List.length_append, List.length_cons, List.length_nil, List.length_take, List.length_drop, cells_int, cells_bool, cells_agg, cells_sl, cells_clo, cells_und, wcs_len, List.length_replicate, List.length_set]; omega)) only [go_sem, ↓reduceIte, reduceCtorEq, Nat.reduceEqDiff, Nat.reduceAdd, Nat.reduceMul, Nat.reduceSub, Nat.reduceLeDiff, Int.reduceEq, Int.reduceLT, Int.reduceLE, Int.reduceAdd, Int.reduceSub, Int.reduceMul, Int.reduceNeg, Int.reduceToNat]
          refine wcond_dec (fun h4 => ?_) (fun h4 => ?_)
          · have hclt : c < r.length := by omega
            have hcn : c ≤ b.cords.length := by omega
            obtain ⟨s, t, es, et, i1, i2, i3, i4, i5⟩ := sure_in hc0 hin hcn
            have k1 : ¬ ((N[c]?.getD default : Nat) : Int) < s.lo := by omega
            have k2 : ¬ s.hi < ((N[c]?.getD default : Nat) : Int) := by omega
            have k3 : (decide (t.lo ≤ s.lo) && (decide (s.lo ≤ s.hi) && decide (s.hi ≤ t.hi))) = true := by simp [i3, i4, i5]
            have hnNl : (nat N).length = r.length := by rw [List.length_map, hNl]
            simp (config := { failIfUnchanged := false }) (disch := first | omega | (simp only [List.length_map, List.length_append, List.length_cons, List.length_nil, List.length_take, List.length_drop, cells_int, cells_bool, cells_agg, cells_sl, cells_clo, cells_und, wcs_len, List.length_replicate, List.length_set]; done) | (simp only [List.length_map, List.length_append, List.length_cons, List.length_nil, List.length_take, List.length_drop, cells_int, cells_bool, cells_agg, cells_sl, cells_clo, cells_und, wcs_len, List.length_replicate, List.length_set]; omega)) only [go_sem, ↓reduceIte, reduceCtorEq, Nat.reduceEqDiff, Nat.reduceAdd, Nat.reduceMul, Nat.reduceSub, Nat.reduceLeDiff, Int.reduceEq, Int.reduceLT, Int.reduceLE, Int.reduceAdd, Int.reduceSub, Int.reduceMul, Int.reduceNeg, Int.reduceToNat]
            refine wcall (c35r b hs c) ?_
            rw [es]
            simp (config := { failIfUnchanged := false }) (disch := first | omega | (simp only [List.length_map, List.length_append, List.length_cons, List.length_nil, List.length_take, List.length_drop, cells_int, cells_bool, cells_agg, cells_sl, cells_clo, cells_und, wcs_len, List.length_replicate, List.length_set]; done) | (simp only [List.length_map, List.length_append, List.length_cons, List.length_nil, List.length_take, List.length_drop, cells_int, cells_bool, cells_agg, cells_sl, cells_clo, cells_und, wcs_len, List.length_replicate, List.length_set]; omega)) only [go_sem, ↓reduceIte, reduceCtorEq, Nat.reduceEqDiff, Nat.reduceAdd, Nat.reduceMul, Nat.reduceSub, Nat.reduceLeDiff, Int.reduceEq, Int.reduceLT, Int.reduceLE, Int.reduceAdd, Int.reduceSub, Int.reduceMul, Int.reduceNeg, Int.reduceToNat]
            refine wcall (c53r b hs c) ?_
            rw [et]
            simp (config := { failIfUnchanged := false }) (disch := first | omega | (simp only [List.length_map, List.length_append, List.length_cons, List.length_nil, List.length_take, List.length_drop, cells_int, cells_bool, cells_agg, cells_sl, cells_clo, cells_und, wcs_len, List.length_replicate, List.length_set]; done) | (simp only [List.length_map, List.length_append, List.length_cons, List.length_nil, List.length_take, List.length_drop, cells_int, cells_bool, cells_agg, cells_sl, cells_clo, cells_und, wcs_len, List.length_replicate, List.length_set]; omega)) only [go_sem, ↓reduceIte, reduceCtorEq, Nat.reduceEqDiff, Nat.reduceAdd, Nat.reduceMul, Nat.reduceSub, Nat.reduceLeDiff, Int.reduceEq, Int.reduceLT, Int.reduceLE, Int.reduceAdd, Int.reduceSub, Int.reduceMul, Int.reduceNeg, Int.reduceToNat, nat_get, decide_eq_false k1, decide_eq_false k2]
            refine wcall (c31 s t) ?_
            rw [k3]
            simp (config := { failIfUnchanged := false }) (disch := first | omega | (simp only [List.length_map, List.length_append, List.length_cons, List.length_nil, List.length_take, List.length_drop, cells_int, cells_bool, cells_agg, cells_sl, cells_clo, cells_und, wcs_len, List.length_replicate, List.length_set]; done) | (simp only [List.length_map, List.length_append, List.length_cons, List.length_nil, List.length_take, List.length_drop, cells_int, cells_bool, cells_agg, cells_sl, cells_clo, cells_und, wcs_len, List.length_replicate, List.length_set]; omega)) only [go_sem, ↓reduceIte, reduceCtorEq, Nat.reduceEqDiff, Nat.reduceAdd, Nat.reduceMul, Nat.reduceSub, Nat.reduceLeDiff, Int.reduceEq, Int.reduceLT, Int.reduceLE, Int.reduceAdd, Int.reduceSub, Int.reduceMul, Int.reduceNeg, Int.reduceToNat]
            obtain ⟨PL, hPL⟩ : ∃ p : Nat, b.places = p := ⟨b.places.toNat, by omega⟩
            refine wp_loop' Nat (fun p => ⟨[(1, RS r), (2, .ptr 2 0), (6, .sl 1 ((nat N).map .int) (.own 6)), (12, .int c), (17, .int p)], [(2, ⟨[.int b.base, .int b.places, .sl 1 (b.cords.map SS) .sh, SS b.top], false⟩)], [(6, r.length)], none⟩) (fun p => p ≤ PL) (fun p => PL - p) 0 (by simp) (by simp (config := { failIfUnchanged := false }) (disch := first | omega | (simp only [List.length_map, List.length_append, List.length_cons, List.length_nil, List.length_take, List.length_drop, cells_int, cells_bool, cells_agg, cells_sl, cells_clo, cells_und, wcs_len, List.length_replicate, List.length_set]; done) | (simp only [List.length_map, List.length_append, List.length_cons, List.length_nil, List.length_take, List.length_drop, cells_int, cells_bool, cells_agg, cells_sl, cells_clo, cells_und, wcs_len, List.length_replicate, List.length_set]; omega)) only [go_sem, ↓reduceIte, reduceCtorEq, Nat.reduceEqDiff, Nat.reduceAdd, Nat.reduceMul, Nat.reduceSub, Nat.reduceLeDiff, Int.reduceEq, Int.reduceLT, Int.reduceLE, Int.reduceAdd, Int.reduceSub, Int.reduceMul, Int.reduceNeg, Int.reduceToNat]; simp) ?_
            intro p hp
            simp (config := { failIfUnchanged := false }) (disch := first | omega | (simp only [List.length_map, List.length_append, List.length_cons, List.length_nil, List.length_take, List.length_drop, cells_int, cells_bool, cells_agg, cells_sl, cells_clo, cells_und, wcs_len, List.length_replicate, List.length_set]; done) | (simp only [List.length_map, List.length_append, List.length_cons, List.length_nil, List.length_take, List.length_drop, cells_int, cells_bool, cells_agg, cells_sl, cells_clo, cells_und, wcs_len, List.length_replicate, List.length_set]; omega)) only [go_sem, ↓reduceIte, reduceCtorEq, Nat.reduceEqDiff, Nat.reduceAdd, Nat.reduceMul, Nat.reduceSub, Nat.reduceLeDiff, Int.reduceEq, Int.reduceLT, Int.reduceLE, Int.reduceAdd, Int.reduceSub, Int.reduceMul, Int.reduceNeg, Int.reduceToNat]
            refine wcond_dec (fun h5 => ?_) (fun h5 => ?_)
            · have hpl2 : p < b.places.toNat := by omega
              obtain ⟨u, eu, j1, j2, j3, j4, j5⟩ := clus_in hc0 hin hcn hpl2
              have hcv := (cordAt_val hv hcn).1
              have ed : (r[c]?.getD default)[p]?.getD default = ((dgN b N c p : Nat) : Int) := by
                rw [← (hrow c hcn).2.2.2, tieN_at _ _ _ _ hpl2]
                unfold dgN
                rw [(hrow c hcn).2.2.1]
              have hrl : ((r[c]?.getD default).length : Int) = b.places := by
                have := (hrow c hcn).1
                simp only [areDig, Bool.and_eq_true, decide_eq_true_eq] at this
                exact this.1
              generalize hdn : dgN b N c p = dn at *
              have q1 : ¬ (dn : Int) < u.lo := by omega
              have q2 : ¬ u.hi < (dn : Int) := by omega
              generalize hcs : (cordAt b c)[p]?.getD default = cs at *
              have q3 : (decide (cs.lo ≤ u.lo) && (decide (u.lo ≤ u.hi) && decide (u.hi ≤ cs.hi))) = true := by simp [j3, j4, j5]
              simp (config := { failIfUnchanged := false }) (disch := first | omega | (simp only [List.length_map, List.length_append, List.length_cons, List.length_nil, List.length_take, List.length_drop, cells_int, cells_bool, cells_agg, cells_sl, cells_clo, cells_und, wcs_len, List.length_replicate, List.length_set]; done) | (simp only [List.length_map, List.length_append, List.length_cons, List.length_nil, List.length_take, List.length_drop, cells_int, cells_bool, cells_agg, cells_sl, cells_clo, cells_und, wcs_len, List.length_replicate, List.length_set]; omega)) only [go_sem, ↓reduceIte, reduceCtorEq, Nat.reduceEqDiff, Nat.reduceAdd, Nat.reduceMul, Nat.reduceSub, Nat.reduceLeDiff, Int.reduceEq, Int.reduceLT, Int.reduceLE, Int.reduceAdd, Int.reduceSub, Int.reduceMul, Int.reduceNeg, Int.reduceToNat]
              refine wcall (c39r b hs c p) ?_
              rw [eu]
              simp (config := { failIfUnchanged := false }) (disch := first | omega | (simp only [List.length_map, List.length_append, List.length_cons, List.length_nil, List.length_take, List.length_drop, cells_int, cells_bool, cells_agg, cells_sl, cells_clo, cells_und, wcs_len, List.length_replicate, List.length_set]; done) | (simp only [List.length_map, List.length_append, List.length_cons, List.length_nil, List.length_take, List.length_drop, cells_int, cells_bool, cells_agg, cells_sl, cells_clo, cells_und, wcs_len, List.length_replicate, List.length_set]; omega)) only [go_sem, ↓reduceIte, reduceCtorEq, Nat.reduceEqDiff, Nat.reduceAdd, Nat.reduceMul, Nat.reduceSub, Nat.reduceLeDiff, Int.reduceEq, Int.reduceLT, Int.reduceLE, Int.reduceAdd, Int.reduceSub, Int.reduceMul, Int.reduceNeg, Int.reduceToNat, ed, decide_eq_false q1, decide_eq_false q2]
              refine wcall (c32 b c hcn) ?_
              simp (config := { failIfUnchanged := false }) (disch := first | omega | (simp only [List.length_map, List.length_append, List.length_cons, List.length_nil, List.length_take, List.length_drop, cells_int, cells_bool, cells_agg, cells_sl, cells_clo, cells_und, wcs_len, List.length_replicate, List.length_set]; done) | (simp only [List.length_map, List.length_append, List.length_cons, List.length_nil, List.length_take, List.length_drop, cells_int, cells_bool, cells_agg, cells_sl, cells_clo, cells_und, wcs_len, List.length_replicate, List.length_set]; omega)) only [go_sem, ↓reduceIte, reduceCtorEq, Nat.reduceEqDiff, Nat.reduceAdd, Nat.reduceMul, Nat.reduceSub, Nat.reduceLeDiff, Int.reduceEq, Int.reduceLT, Int.reduceLE, Int.reduceAdd, Int.reduceSub, Int.reduceMul, Int.reduceNeg, Int.reduceToNat, hcs]
              refine wcall (c31 u cs) ?_
              rw [q3]
              simp (config := { failIfUnchanged := false }) (disch := first | omega | (simp only [List.length_map, List.length_append, List.length_cons, List.length_nil, List.length_take, List.length_drop, cells_int, cells_bool, cells_agg, cells_sl, cells_clo, cells_und, wcs_len, List.length_replicate, List.length_set]; done) | (simp only [List.length_map, List.length_append, List.length_cons, List.length_nil, List.length_take, List.length_drop, cells_int, cells_bool, cells_agg, cells_sl, cells_clo, cells_und, wcs_len, List.length_replicate, List.length_set]; omega)) only [go_sem, ↓reduceIte, reduceCtorEq, Nat.reduceEqDiff, Nat.reduceAdd, Nat.reduceMul, Nat.reduceSub, Nat.reduceLeDiff, Int.reduceEq, Int.reduceLT, Int.reduceLE, Int.reduceAdd, Int.reduceSub, Int.reduceMul, Int.reduceNeg, Int.reduceToNat]
              refine ⟨p + 1, by omega, by dsimp only; omega, ?_⟩
              simp (config := { failIfUnchanged := false }) (disch := first | omega | (simp only [List.length_map, List.length_append, List.length_cons, List.length_nil, List.length_take, List.length_drop, cells_int, cells_bool, cells_agg, cells_sl, cells_clo, cells_und, wcs_len, List.length_replicate, List.length_set]; done) | (simp only [List.length_map, List.length_append, List.length_cons, List.length_nil, List.length_take, List.length_drop, cells_int, cells_bool, cells_agg, cells_sl, cells_clo, cells_und, wcs_len, List.length_replicate, List.length_set]; omega)) only [go_sem, ↓reduceIte, reduceCtorEq, Nat.reduceEqDiff, Nat.reduceAdd, Nat.reduceMul, Nat.reduceSub, Nat.reduceLeDiff, Int.reduceEq, Int.reduceLT, Int.reduceLE, Int.reduceAdd, Int.reduceSub, Int.reduceMul, Int.reduceNeg, Int.reduceToNat]
              simp
            · simp (config := { failIfUnchanged := false }) (disch := first | omega | (simp only [List.length_map, List.length_append, List.length_cons, List.length_nil, List.length_take, List.length_drop, cells_int, cells_bool, cells_agg, cells_sl, cells_clo, cells_und, wcs_len, List.length_replicate, List.length_set]; done) | (simp only [List.length_map, List.length_append, List.length_cons, List.length_nil, List.length_take, List.length_drop, cells_int, cells_bool, cells_agg, cells_sl, cells_clo, cells_und, wcs_len, List.length_replicate, List.length_set]; omega)) only [go_sem, ↓reduceIte, reduceCtorEq, Nat.reduceEqDiff, Nat.reduceAdd, Nat.reduceMul, Nat.reduceSub, Nat.reduceLeDiff, Int.reduceEq, Int.reduceLT, Int.reduceLE, Int.reduceAdd, Int.reduceSub, Int.reduceMul, Int.reduceNeg, Int.reduceToNat]
              refine ⟨c + 1, by omega, by dsimp only; omega, ?_⟩
              simp (config := { failIfUnchanged := false }) (disch := first | omega | (simp only [List.length_map, List.length_append, List.length_cons, List.length_nil, List.length_take, List.length_drop, cells_int, cells_bool, cells_agg, cells_sl, cells_clo, cells_und, wcs_len, List.length_replicate, List.length_set]; done) | (simp only [List.length_map, List.length_append, List.length_cons, List.length_nil, List.length_take, List.length_drop, cells_int, cells_bool, cells_agg, cells_sl, cells_clo, cells_und, wcs_len, List.length_replicate, List.length_set]; omega)) only [go_sem, ↓reduceIte, reduceCtorEq, Nat.reduceEqDiff, Nat.reduceAdd, Nat.reduceMul, Nat.reduceSub, Nat.reduceLeDiff, Int.reduceEq, Int.reduceLT, Int.reduceLE, Int.reduceAdd, Int.reduceSub, Int.reduceMul, Int.reduceNeg, Int.reduceToNat]
              simp
          · have e : c = r.length := by omega
            subst e
            simp (config := { failIfUnchanged := false }) (disch := first | omega | (simp only [List.length_map, List.length_append, List.length_cons, List.length_nil, List.length_take, List.length_drop, cells_int, cells_bool, cells_agg, cells_sl, cells_clo, cells_und, wcs_len, List.length_replicate, List.length_set]; done) | (simp only [List.length_map, List.length_append, List.length_cons, List.length_nil, List.length_take, List.length_drop, cells_int, cells_bool, cells_agg, cells_sl, cells_clo, cells_und, wcs_len, List.length_replicate, List.length_set]; omega)) only [go_sem, ↓reduceIte, reduceCtorEq, Nat.reduceEqDiff, Nat.reduceAdd, Nat.reduceMul, Nat.reduceSub, Nat.reduceLeDiff, Int.reduceEq, Int.reduceLT, Int.reduceLE, Int.reduceAdd, Int.reduceSub, Int.reduceMul, Int.reduceNeg, Int.reduceToNat]
            obtain ⟨PL, hPL⟩ : ∃ p : Nat, b.places = p := ⟨b.places.toNat, by omega⟩
            refine wp_loop' Nat (fun p => ⟨[(2, .ptr 2 0), (6, .sl 1 ((nat N).map .int) (.own 6)), (20, .int p)], [(2, ⟨[.int b.base, .int b.places, .sl 1 (b.cords.map SS) .sh, SS b.top], false⟩)], [(6, r.length)], none⟩) (fun p => p ≤ PL) (fun p => PL - p) 0 (by simp) (by simp (config := { failIfUnchanged := false }) (disch := first | omega | (simp only [List.length_map, List.length_append, List.length_cons, List.length_nil, List.length_take, List.length_drop, cells_int, cells_bool, cells_agg, cells_sl, cells_clo, cells_und, wcs_len, List.length_replicate, List.length_set]; done) | (simp only [List.length_map, List.length_append, List.length_cons, List.length_nil, List.length_take, List.length_drop, cells_int, cells_bool, cells_agg, cells_sl, cells_clo, cells_und, wcs_len, List.length_replicate, List.length_set]; omega)) only [go_sem, ↓reduceIte, reduceCtorEq, Nat.reduceEqDiff, Nat.reduceAdd, Nat.reduceMul, Nat.reduceSub, Nat.reduceLeDiff, Int.reduceEq, Int.reduceLT, Int.reduceLE, Int.reduceAdd, Int.reduceSub, Int.reduceMul, Int.reduceNeg, Int.reduceToNat]; simp) ?_
            intro p hp
            simp (config := { failIfUnchanged := false }) (disch := first | omega | (simp only [List.length_map, List.length_append, List.length_cons, List.length_nil, List.length_take, List.length_drop, cells_int, cells_bool, cells_agg, cells_sl, cells_clo, cells_und, wcs_len, List.length_replicate, List.length_set]; done) | (simp only [List.length_map, List.length_append, List.length_cons, List.length_nil, List.length_take, List.length_drop, cells_int, cells_bool, cells_agg, cells_sl, cells_clo, cells_und, wcs_len, List.length_replicate, List.length_set]; omega)) only [go_sem, ↓reduceIte, reduceCtorEq, Nat.reduceEqDiff, Nat.reduceAdd, Nat.reduceMul, Nat.reduceSub, Nat.reduceLeDiff, Int.reduceEq, Int.reduceLT, Int.reduceLE, Int.reduceAdd, Int.reduceSub, Int.reduceMul, Int.reduceNeg, Int.reduceToNat]
            refine wcond_dec (fun h5 => ?_) (fun h5 => ?_)
            · have hpl2 : p < b.places.toNat := by omega
              obtain ⟨s, es, i1, i2⟩ := carr_in hc0 hin hpl2
              have k1 : ¬ ((carN b N p : Nat) : Int) < s.lo := by omega
              have k2 : ¬ s.hi < ((carN b N p : Nat) : Int) := by omega
              simp (config := { failIfUnchanged := false }) (disch := first | omega | (simp only [List.length_map, List.length_append, List.length_cons, List.length_nil, List.length_take, List.length_drop, cells_int, cells_bool, cells_agg, cells_sl, cells_clo, cells_und, wcs_len, List.length_replicate, List.length_set]; done) | (simp only [List.length_map, List.length_append, List.length_cons, List.length_nil, List.length_take, List.length_drop, cells_int, cells_bool, cells_agg, cells_sl, cells_clo, cells_und, wcs_len, List.length_replicate, List.length_set]; omega)) only [go_sem, ↓reduceIte, reduceCtorEq, Nat.reduceEqDiff, Nat.reduceAdd, Nat.reduceMul, Nat.reduceSub, Nat.reduceLeDiff, Int.reduceEq, Int.reduceLT, Int.reduceLE, Int.reduceAdd, Int.reduceSub, Int.reduceMul, Int.reduceNeg, Int.reduceToNat]
              refine wcall (c47r b hs p) ?_
              rw [es]
              simp (config := { failIfUnchanged := false }) (disch := first | omega | (simp only [List.length_map, List.length_append, List.length_cons, List.length_nil, List.length_take, List.length_drop, cells_int, cells_bool, cells_agg, cells_sl, cells_clo, cells_und, wcs_len, List.length_replicate, List.length_set]; done) | (simp only [List.length_map, List.length_append, List.length_cons, List.length_nil, List.length_take, List.length_drop, cells_int, cells_bool, cells_agg, cells_sl, cells_clo, cells_und, wcs_len, List.length_replicate, List.length_set]; omega)) only [go_sem, ↓reduceIte, reduceCtorEq, Nat.reduceEqDiff, Nat.reduceAdd, Nat.reduceMul, Nat.reduceSub, Nat.reduceLeDiff, Int.reduceEq, Int.reduceLT, Int.reduceLE, Int.reduceAdd, Int.reduceSub, Int.reduceMul, Int.reduceNeg, Int.reduceToNat]
              refine wcall (c62 b hv N (by omega) hNs p hpl2) ?_
              simp (config := { failIfUnchanged := false }) (disch := first | omega | (simp only [List.length_map, List.length_append, List.length_cons, List.length_nil, List.length_take, List.length_drop, cells_int, cells_bool, cells_agg, cells_sl, cells_clo, cells_und, wcs_len, List.length_replicate, List.length_set]; done) | (simp only [List.length_map, List.length_append, List.length_cons, List.length_nil, List.length_take, List.length_drop, cells_int, cells_bool, cells_agg, cells_sl, cells_clo, cells_und, wcs_len, List.length_replicate, List.length_set]; omega)) only [go_sem, ↓reduceIte, reduceCtorEq, Nat.reduceEqDiff, Nat.reduceAdd, Nat.reduceMul, Nat.reduceSub, Nat.reduceLeDiff, Int.reduceEq, Int.reduceLT, Int.reduceLE, Int.reduceAdd, Int.reduceSub, Int.reduceMul, Int.reduceNeg, Int.reduceToNat, decide_eq_false k1, decide_eq_false k2]
              refine ⟨p + 1, by omega, by dsimp only; omega, ?_⟩
              simp (config := { failIfUnchanged := false }) (disch := first | omega | (simp only [List.length_map, List.length_append, List.length_cons, List.length_nil, List.length_take, List.length_drop, cells_int, cells_bool, cells_agg, cells_sl, cells_clo, cells_und, wcs_len, List.length_replicate, List.length_set]; done) | (simp only [List.length_map, List.length_append, List.length_cons, List.length_nil, List.length_take, List.length_drop, cells_int, cells_bool, cells_agg, cells_sl, cells_clo, cells_und, wcs_len, List.length_replicate, List.length_set]; omega)) only [go_sem, ↓reduceIte, reduceCtorEq, Nat.reduceEqDiff, Nat.reduceAdd, Nat.reduceMul, Nat.reduceSub, Nat.reduceLeDiff, Int.reduceEq, Int.reduceLT, Int.reduceLE, Int.reduceAdd, Int.reduceSub, Int.reduceMul, Int.reduceNeg, Int.reduceToNat]
              simp
            · simp (config := { failIfUnchanged := false }) (disch := first | omega | (simp only [List.length_map, List.length_append, List.length_cons, List.length_nil, List.length_take, List.length_drop, cells_int, cells_bool, cells_agg, cells_sl, cells_clo, cells_und, wcs_len, List.length_replicate, List.length_set]; done) | (simp only [List.length_map, List.length_append, List.length_cons, List.length_nil, List.length_take, List.length_drop, cells_int, cells_bool, cells_agg, cells_sl, cells_clo, cells_und, wcs_len, List.length_replicate, List.length_set]; omega)) only [go_sem, ↓reduceIte, reduceCtorEq, Nat.reduceEqDiff, Nat.reduceAdd, Nat.reduceMul, Nat.reduceSub, Nat.reduceLeDiff, Int.reduceEq, Int.reduceLT, Int.reduceLE, Int.reduceAdd, Int.reduceSub, Int.reduceMul, Int.reduceNeg, Int.reduceToNat]
              refine wcall c17 ?_
              simp (config := { failIfUnchanged := false }) (disch := first | omega | (simp only [List.length_map, List.length_append, List.length_cons, List.length_nil, List.length_take, List.length_drop, cells_int, cells_bool, cells_agg, cells_sl, cells_clo, cells_und, wcs_len, List.length_replicate, List.length_set]; done) | (simp only [List.length_map, List.length_append, List.length_cons, List.length_nil, List.length_take, List.length_drop, cells_int, cells_bool, cells_agg, cells_sl, cells_clo, cells_und, wcs_len, List.length_replicate, List.length_set]; omega)) only [go_sem, ↓reduceIte, reduceCtorEq, Nat.reduceEqDiff, Nat.reduceAdd, Nat.reduceMul, Nat.reduceSub, Nat.reduceLeDiff, Int.reduceEq, Int.reduceLT, Int.reduceLE, Int.reduceAdd, Int.reduceSub, Int.reduceMul, Int.reduceNeg, Int.reduceToNat]
    · simp (config := { failIfUnchanged := false }) (disch := first | omega | (simp only [List.length_map, List.length_append, List.length_cons, List.length_nil, List.length_take, List.length_drop, cells_int, cells_bool, cells_agg, cells_sl, cells_clo, cells_und, wcs_len, List.length_replicate, List.length_set]; done) | (simp only [List.length_map, List.length_append, List.length_cons, List.length_nil, List.length_take, List.length_drop, cells_int, cells_bool, cells_agg, cells_sl, cells_clo, cells_und, wcs_len, List.length_replicate, List.length_set]; omega)) only [go_sem, ↓reduceIte, reduceCtorEq, Nat.reduceEqDiff, Nat.reduceAdd, Nat.reduceMul, Nat.reduceSub, Nat.reduceLeDiff, Int.reduceEq, Int.reduceLT, Int.reduceLE, Int.reduceAdd, Int.reduceSub, Int.reduceMul, Int.reduceNeg, Int.reduceToNat, h40]
      refine wcall c17 ?_
      simp (config := { failIfUnchanged := false }) (disch := first | omega | (simp only [List.length_map, List.length_append, List.length_cons, List.length_nil, List.length_take, List.length_drop, cells_int, cells_bool, cells_agg, cells_sl, cells_clo, cells_und, wcs_len, List.length_replicate, List.length_set]; done) | (simp only [List.length_map, List.length_append, List.length_cons, List.length_nil, List.length_take, List.length_drop, cells_int, cells_bool, cells_agg, cells_sl, cells_clo, cells_und, wcs_len, List.length_replicate, List.length_set]; omega)) only [go_sem, ↓reduceIte, reduceCtorEq, Nat.reduceEqDiff, Nat.reduceAdd, Nat.reduceMul, Nat.reduceSub, Nat.reduceLeDiff, Int.reduceEq, Int.reduceLT, Int.reduceLE, Int.reduceAdd, Int.reduceSub, Int.reduceMul, Int.reduceNeg, Int.reduceToNat]

end Go.Proofs.Ytkkiipjfbebipaa
