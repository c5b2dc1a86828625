/- Merged by program: T60, T61, T62, T63, T65, T66, T67, T68. -/
import Derived.Test.YtkkiipjfbebipaaM5
/- Plain law for With, part 3: what the laws say. -/
set_option linter.unusedSimpArgs false
set_option linter.unusedVariables false
set_option linter.unnecessarySimpa false
namespace Go.Proofs.Ytkkiipjfbebipaa
open Go Go.V

/-- A knot more or less: Retie is the same, or 1 less. -/
theorem least_near {b : Bk} (hv : Val b) {c p : Nat} {s : Sp} (hc : c ≤ b.cords.length) (hp : p < b.places.toNat) (hv' : Val (withB b c p s)) (h : ∀ d : Nat, costL (cordSp b c p) d - 1 ≤ costL s d ∧ costL s d ≤ costL (cordSp b c p) d) :
    leastB b - 1 ≤ leastB (withB b c p s) ∧ leastB (withB b c p s) ≤ leastB b := by
  obtain ⟨g1, l, hl, g2⟩ := least_spec hv'
  obtain ⟨g3, k, hk, g4⟩ := least_spec hv
  rw [frNs_with] at hl g1
  have a1 := g3 l hl
  have a2 := costN_with hv (s := s) hc hp l
  have a3 := h (dgN b l c p)
  have b1 := g1 k hk
  have b2 := costN_with hv (s := s) hc hp k
  have b3 := h (dgN b k c p)
  omega

theorem cost_less {s : Sp} (h : s.lo ≤ s.hi) (d : Nat) : costL s d - 1 ≤ costL ⟨s.lo - 1, s.hi⟩ d ∧ costL ⟨s.lo - 1, s.hi⟩ d ≤ costL s d := by
  unfold costL
  dsimp only
  omega

theorem cost_more {s : Sp} (h : s.lo ≤ s.hi) (d : Nat) : costL s d - 1 ≤ costL ⟨s.lo, s.hi + 1⟩ d ∧ costL ⟨s.lo, s.hi + 1⟩ d ≤ costL s d := by
  unfold costL
  dsimp only
  omega

/-- Retie is nothing just if there is a right reading. -/
theorem least_zero {b : Bk} (hv : Val b) : leastB b = 0 ↔ 0 < (allNs b).length := by
  obtain ⟨g1, l, hl, g2⟩ := least_spec hv
  rw [allNs_fr hv]
  constructor
  · intro h
    exact List.length_pos_of_mem (List.mem_filter.2 ⟨hl, by simp [g2, h]⟩)
  · intro h
    obtain ⟨k, hk⟩ := List.exists_mem_of_length_pos h
    obtain ⟨hk1, hk2⟩ := List.mem_filter.1 hk
    have := g1 k hk1
    have := costN_bd hv l
    simp only [decide_eq_true_eq] at hk2
    omega

/-- The digit at a cluster of a right reading is in its span. -/
theorem dig_in {b : Bk} (hv : Val b) {l : List Nat} (hl : l ∈ allNs b) {c p : Nat} (hc : c ≤ b.cords.length) (hp : p < b.places.toNat) : (cordSp b c p).lo ≤ ((dgN b l c p : Nat) : Int) ∧ ((dgN b l c p : Nat) : Int) ≤ (cordSp b c p).hi := by
  have hf := all_fits hl hc
  have h1 := (cordAt_val hv hc).1
  unfold fitsL at hf
  rw [List.all_eq_true] at hf
  have := hf p (by rw [List.mem_range]; omega)
  rw [tieN_at _ _ _ _ hp] at this
  simpa [within, dgN, cordSp] using this

/-- With one digit alone at a cluster. -/
theorem one_with {b : Bk} (hv : Val b) {c p d : Nat} (hc : c ≤ b.cords.length) (hp : p < b.places.toNat) (hd : (cordSp b c p).lo ≤ d ∧ (d : Int) ≤ (cordSp b c p).hi) :
    (allNs (withB b c p ⟨d, d⟩)).length = cntN b (allNs b) c p (allNs b).length d := by
  obtain ⟨h1, h2⟩ := cordAt_val hv hc
  obtain ⟨s1, s2, s3⟩ := h2 _ (mem_getD (show p < (cordAt b c).length by omega))
  have hs3 : (cordSp b c p).hi < b.base := s3
  rw [allNs_with hv hc hp ⟨by dsimp only; omega, by dsimp only; omega, by dsimp only; omega⟩ ⟨hd.1, hd.2⟩]
  unfold cntN
  rw [List.take_length, ← sumF_len, sumF_filter]
  refine sumF_congr fun l _ => ?_
  by_cases h : dgN b l c p = d
  · rw [if_pos h, if_pos (by rw [h]; simp [within])]
  · rw [if_neg h, if_neg (by simp [within]; omega)]

/-- The digits of a cluster part the readings. -/
theorem cnt_sum {b : Bk} (L : List (List Nat)) (c p lo n : Nat) (h : ∀ l ∈ L, lo ≤ dgN b l c p ∧ dgN b l c p < lo + n) : sumF (List.range n) (fun i => cntN b L c p L.length (lo + i)) = L.length := by
  unfold cntN
  rw [List.take_length, sumF_comm, ← sumF_len L]
  refine sumF_congr fun l hl => ?_
  obtain ⟨h1, h2⟩ := h l hl
  have := sumF_range_one (n := n) (k := dgN b l c p - lo) (by omega) (fun _ => 1)
  refine Eq.trans (sumF_congr fun i _ => ?_) this
  by_cases e : dgN b l c p = lo + i
  · rw [if_pos e, if_pos (by omega)]
  · rw [if_neg e, if_neg (by omega)]

end Go.Proofs.Ytkkiipjfbebipaa

/- With: a book in which one cluster is another span. -/
set_option linter.unusedSimpArgs false
set_option linter.unusedVariables false
set_option linter.unnecessarySimpa false
namespace Go.Proofs.Ytkkiipjfbebipaa
open Go Go.V

@[simp] theorem flat_len (l : List Sp) : (flat (l.map SP)).length = l.length * 2 := by
  rw [flat_length (sz := 2)]
  · simp
  · intro e he
    obtain ⟨s, _, rfl⟩ := List.mem_map.1 he
    rfl

theorem setAt_flat (l : List Sp) (p : Nat) (a c : Int) (h : p < l.length) : setAt (flat (l.map SP)) (p * 2) [.int a, .int c] = flat ((l.set p ⟨a, c⟩).map SP) := by
  induction l generalizing p with
  | nil => simp at h
  | cons s r ih =>
    cases p with
    | zero => rfl
    | succ p =>
      simp only [List.map_cons, flat, cells_agg, List.set_cons_succ]
      have := ih p (by simpa using h)
      rw [show (p + 1) * 2 = p * 2 + 1 + 1 by omega]
      simp only [List.cons_append, List.nil_append, setAt]
      rw [this]

theorem chunks_flat (l : List Sp) (pre : List AV) (k : Nat) (hk : k = l.length) : chunks true 2 (pre ++ flat (l.map SP)) pre.length k = l.map SP := by
  subst hk
  induction l generalizing pre with
  | nil => rfl
  | cons s r ih =>
    simp only [List.length_cons, chunks, List.map_cons, flat, cells_agg]
    congr 1
    · simp [chunk]
    · have := ih (pre ++ [.int s.lo, .int s.hi])
      simp only [List.append_assoc, List.length_append, List.length_cons, List.length_nil] at this
      exact this

theorem chunks_flat0 (l : List Sp) (k : Nat) (hk : k = l.length) : chunks true 2 (flat (l.map SP)) 0 k = l.map SP := chunks_flat l [] k hk

theorem map_tidy_flat (l : List Sp) (hp : HpL) : (flat (l.map SP)).map (tidy hp) = flat (l.map SP) := by
  induction l with
  | nil => rfl
  | cons s r ih => simp only [List.map_cons, flat, cells_agg, List.map_append, List.map_nil, tidy_int, ih]

theorem map_strip_flat (l : List Sp) (hp : HpL) : (flat (l.map SP)).map (strip hp) = flat (l.map SP) := by
  induction l with
  | nil => rfl
  | cons s r ih => simp only [List.map_cons, flat, cells_agg, List.map_append, List.map_nil, strip_int, ih]

/-- The rows that are copied. -/
def rowsC (cords : List (List Sp)) : Nat → HpL
  | 0 => []
  | i + 1 => (K 2 i 0, ⟨flat ((cords[i]?.getD default).map SP), false⟩) :: rowsC cords i

def cellsC (cords : List (List Sp)) : Nat → List AV
  | 0 => []
  | i + 1 => cellsC cords i ++ [.gsl 2 i 0 2 (cords[i]?.getD default).length true]

def restC (cords : List (List Sp)) : Nat → HpL
  | 0 => []
  | i + 1 => (K 3 0 i, ⟨cellsC cords (i + 1), false⟩) :: rowsC cords (i + 1)

def ccC : Nat → AV
  | 0 => .sl 1 [] .full
  | i + 1 => .gsl 3 0 i 1 (i + 1) false

theorem scopes_flat (l : List Sp) (τ : AS) : scopes τ (flat (l.map SP)) = True := by
  induction l with
  | nil => rfl
  | cons s r ih => simp only [List.map_cons, flat, cells_agg, List.cons_append, List.nil_append, scopes, inS_int, ih, and_self]

theorem bids_flat (l : List Sp) : bids (flat (l.map SP)) = [] := by
  induction l with
  | nil => rfl
  | cons s r ih => simp only [List.map_cons, flat, cells_agg, List.cons_append, List.nil_append, bids, bid_int, ih]

attribute [go_sem] flat_len map_tidy_flat map_strip_flat scopes_flat bids_flat

end Go.Proofs.Ytkkiipjfbebipaa

/- With: a book in which one cluster is another span: the walk. -/
set_option linter.unusedSimpArgs false
set_option linter.unusedVariables false
set_option linter.unnecessarySimpa false
namespace Go.Proofs.Ytkkiipjfbebipaa
open Go Go.V

/-- The state at the head of Copy's loop. -/
def stC (base places : Int) (cords : List (List Sp)) (top : List Sp) (hp0 : HpL) (i : Nat) : AS :=
  ⟨[(1, .ptr 4001 0), (2, .ptr 4002 0), (3, .ptr 4003 0), (4, .int (i : Nat))],
   (4003, ⟨[.int base, .int places, ccC i, .gsl 1 0 0 2 top.length true], false⟩) :: (4002, ⟨[.int 0, .int 0, .sl 1 [] .full, .sl 2 [] .full], false⟩) :: (4001, ⟨[.int base, .int places, .sl 1 (cords.map SS) .sh, SS top], false⟩) ::
   (K 1 0 0, ⟨flat (top.map SP), false⟩) :: (hp0 ++ restC cords i), [], none⟩

theorem exL0 {l : List (List Sp)} (h : l.length = 0) : l = [] := List.eq_nil_of_length_eq_zero h
theorem exL1 {l : List (List Sp)} (h : l.length = 1) : ∃ l0, l = [l0] := by
  match l, h with
  | [a0], _ => exact ⟨a0, rfl⟩
theorem exL2 {l : List (List Sp)} (h : l.length = 2) : ∃ l0 l1, l = [l0, l1] := by
  match l, h with
  | [a0, a1], _ => exact ⟨a0, a1, rfl⟩
theorem exL3 {l : List (List Sp)} (h : l.length = 3) : ∃ l0 l1 l2, l = [l0, l1, l2] := by
  match l, h with
  | [a0, a1, a2], _ => exact ⟨a0, a1, a2, rfl⟩
theorem exL4 {l : List (List Sp)} (h : l.length = 4) : ∃ l0 l1 l2 l3, l = [l0, l1, l2, l3] := by
  match l, h with
  | [a0, a1, a2, a3], _ => exact ⟨a0, a1, a2, a3, rfl⟩

theorem c33 (base places : Int) (cords : List (List Sp)) (top : List Sp) (c p : Nat) (s : Sp) (hpl : 0 ≤ places ∧ places ≤ 4) (h4 : cords.length ≤ 4) (hr : ∀ l ∈ cords, (l.length : Int) = places) (ht : (top.length : Int) = places) (hc : c ≤ cords.length) (hp : (p : Int) < places) :
    Ctr Try.prog 33 [KB ⟨base, places, cords, top⟩, .int c, .int p, SP s] (KB (withB ⟨base, places, cords, top⟩ c p s)) := by
  have hrow : ∀ i, i < cords.length → ((cords[i]?.getD default).length : Int) = places := fun i hi => hr _ (mem_getD hi)
  refine ctr_of_wp hmix Try.func33 m33g rfl ?_
  unfold v33g
  simp -failIfUnchanged (disch := first | omega | (simp [wcs_len] <;> omega) | fail) only [go_sem, simprocAttr]
  refine wcall_in hmix Try.func18 m18g rfl ?_
  unfold v18g
  simp -failIfUnchanged (disch := first | omega | (simp [wcs_len] <;> omega) | fail) only [go_sem, simprocAttr]
  refine wp_loopX Nat (stC base places cords top [(4, ⟨[.int base, .int places, .sl 1 (cords.map SS) .sh, SS top], false⟩), (7, ⟨[.int s.lo, .int s.hi], false⟩), (8, ⟨[.int 0, .int 0, .sl 1 [] .full, .sl 2 [] .full], false⟩)]) (fun i => i ≤ cords.length) (fun i => cords.length - i) 0 (by simp) (by unfold stC restC ccC; simp -failIfUnchanged (disch := first | omega | (simp [wcs_len] <;> omega) | fail) only [go_sem, simprocAttr]; try simp) (fun i => by unfold stC; simp -failIfUnchanged (disch := first | omega | (simp [wcs_len] <;> omega) | fail) only [go_sem, simprocAttr]; try simp) ?_
  generalize hS : stC base places cords top [(4, ⟨[.int base, .int places, .sl 1 (cords.map SS) .sh, SS top], false⟩), (7, ⟨[.int s.lo, .int s.hi], false⟩), (8, ⟨[.int 0, .int 0, .sl 1 [] .full, .sl 2 [] .full], false⟩)] = S
  have hSi := fun i => congrFun hS i
  intro i hi
  have h9 : i = 0 ∨ i = 1 ∨ i = 2 ∨ i = 3 ∨ i = 4 := by omega
  rcases h9 with rfl | rfl | rfl | rfl | rfl
  · have hs := hSi 0
    simp only [stC, restC, ccC, cellsC, rowsC, List.cons_append, List.nil_append] at hs
    rw [← hs]
    simp -failIfUnchanged (disch := first | omega | (simp [wcs_len] <;> omega) | fail) only [go_sem, simprocAttr]
    refine wcond_dec (fun h => ?_) (fun h => ?_)
    · have hlt : 0 < cords.length := by omega
      have hr0 := hrow 0 hlt
      simp -failIfUnchanged (disch := first | omega | (simp [wcs_len] <;> omega) | fail) only [go_sem, simprocAttr]
      refine lpx_norm ⟨1, by omega, by omega, ?_⟩
      have ht := hSi 1
      simp only [stC, restC, ccC, cellsC, rowsC, List.cons_append, List.nil_append] at ht
      rw [← ht]
      simp -failIfUnchanged (disch := first | omega | (simp [wcs_len] <;> omega) | fail) only [go_sem, simprocAttr]
      try simp
    · have hcl : cords.length = 0 := by omega
      clear hS hSi hs
      simp -failIfUnchanged (disch := first | omega | (simp [wcs_len] <;> omega) | fail) only [go_sem, simprocAttr]
      refine wcond_dec (fun h2 => ?_) (fun h2 => ?_)
      · simp -failIfUnchanged (disch := first | omega | (simp [wcs_len] <;> omega) | fail) only [go_sem, simprocAttr]
        rw [setAt_flat _ _ _ _ (by omega)]
        refine wopsN [K 1 0 0] ?_
        simp -failIfUnchanged (disch := first | omega | (simp [wcs_len] <;> omega) | fail) only [go_sem, simprocAttr, Nat.le_refl, List.length_set]
        obtain rfl : c = 0 := by omega
        obtain rfl := exL0 hcl
        simp [-List.map_set, withB, chunks, chunk, chunks_flat0]
      · omega
  · have hs := hSi 1
    simp only [stC, restC, ccC, cellsC, rowsC, List.cons_append, List.nil_append] at hs
    rw [← hs]
    simp -failIfUnchanged (disch := first | omega | (simp [wcs_len] <;> omega) | fail) only [go_sem, simprocAttr]
    refine wcond_dec (fun h => ?_) (fun h => ?_)
    · have hlt : 1 < cords.length := by omega
      have hr0 := hrow 1 hlt
      simp -failIfUnchanged (disch := first | omega | (simp [wcs_len] <;> omega) | fail) only [go_sem, simprocAttr]
      refine lpx_norm ⟨2, by omega, by omega, ?_⟩
      have ht := hSi 2
      simp only [stC, restC, ccC, cellsC, rowsC, List.cons_append, List.nil_append] at ht
      rw [← ht]
      simp -failIfUnchanged (disch := first | omega | (simp [wcs_len] <;> omega) | fail) only [go_sem, simprocAttr]
      try simp
    · have hcl : cords.length = 1 := by omega
      clear hS hSi hs
      simp -failIfUnchanged (disch := first | omega | (simp [wcs_len] <;> omega) | fail) only [go_sem, simprocAttr]
      refine wcond_dec (fun h2 => ?_) (fun h2 => ?_)
      · simp -failIfUnchanged (disch := first | omega | (simp [wcs_len] <;> omega) | fail) only [go_sem, simprocAttr]
        rw [setAt_flat _ _ _ _ (by omega)]
        refine wopsN [K 1 0 0, K 2 0 0, K 3 0 0] ?_
        simp -failIfUnchanged (disch := first | omega | (simp [wcs_len] <;> omega) | fail) only [go_sem, simprocAttr, Nat.le_refl, List.length_set]
        obtain rfl : c = 1 := by omega
        obtain ⟨l0, rfl⟩ := exL1 hcl
        simp [-List.map_set, withB, chunks, chunk, chunks_flat0]
      · have hcj : c = 0 := by omega
        rcases hcj with rfl
        · have hr0 := hrow 0 (by omega)
          simp -failIfUnchanged (disch := first | omega | (simp [wcs_len] <;> omega) | fail) only [go_sem, simprocAttr]
          rw [setAt_flat _ _ _ _ (by omega)]
          refine wopsN [K 1 0 0, K 2 0 0, K 3 0 0] ?_
          simp -failIfUnchanged (disch := first | omega | (simp [wcs_len] <;> omega) | fail) only [go_sem, simprocAttr, Nat.le_refl, List.length_set]
          obtain ⟨l0, rfl⟩ := exL1 hcl
          simp [-List.map_set, withB, chunks, chunk, chunks_flat0]
  · have hs := hSi 2
    simp only [stC, restC, ccC, cellsC, rowsC, List.cons_append, List.nil_append] at hs
    rw [← hs]
    simp -failIfUnchanged (disch := first | omega | (simp [wcs_len] <;> omega) | fail) only [go_sem, simprocAttr]
    refine wcond_dec (fun h => ?_) (fun h => ?_)
    · have hlt : 2 < cords.length := by omega
      have hr0 := hrow 2 hlt
      simp -failIfUnchanged (disch := first | omega | (simp [wcs_len] <;> omega) | fail) only [go_sem, simprocAttr]
      refine lpx_norm ⟨3, by omega, by omega, ?_⟩
      have ht := hSi 3
      simp only [stC, restC, ccC, cellsC, rowsC, List.cons_append, List.nil_append] at ht
      rw [← ht]
      simp -failIfUnchanged (disch := first | omega | (simp [wcs_len] <;> omega) | fail) only [go_sem, simprocAttr]
      try simp
    · have hcl : cords.length = 2 := by omega
      clear hS hSi hs
      simp -failIfUnchanged (disch := first | omega | (simp [wcs_len] <;> omega) | fail) only [go_sem, simprocAttr]
      refine wcond_dec (fun h2 => ?_) (fun h2 => ?_)
      · simp -failIfUnchanged (disch := first | omega | (simp [wcs_len] <;> omega) | fail) only [go_sem, simprocAttr]
        rw [setAt_flat _ _ _ _ (by omega)]
        refine wopsN [K 1 0 0, K 2 0 0, K 2 1 0, K 3 0 1] ?_
        simp -failIfUnchanged (disch := first | omega | (simp [wcs_len] <;> omega) | fail) only [go_sem, simprocAttr, Nat.le_refl, List.length_set]
        obtain rfl : c = 2 := by omega
        obtain ⟨l0, l1, rfl⟩ := exL2 hcl
        simp [-List.map_set, withB, chunks, chunk, chunks_flat0]
      · have hcj : c = 0 ∨ c = 1 := by omega
        rcases hcj with rfl | rfl
        · have hr0 := hrow 0 (by omega)
          simp -failIfUnchanged (disch := first | omega | (simp [wcs_len] <;> omega) | fail) only [go_sem, simprocAttr]
          rw [setAt_flat _ _ _ _ (by omega)]
          refine wopsN [K 1 0 0, K 2 0 0, K 2 1 0, K 3 0 1] ?_
          simp -failIfUnchanged (disch := first | omega | (simp [wcs_len] <;> omega) | fail) only [go_sem, simprocAttr, Nat.le_refl, List.length_set]
          obtain ⟨l0, l1, rfl⟩ := exL2 hcl
          simp [-List.map_set, withB, chunks, chunk, chunks_flat0]
        · have hr0 := hrow 1 (by omega)
          simp -failIfUnchanged (disch := first | omega | (simp [wcs_len] <;> omega) | fail) only [go_sem, simprocAttr]
          rw [setAt_flat _ _ _ _ (by omega)]
          refine wopsN [K 1 0 0, K 2 0 0, K 2 1 0, K 3 0 1] ?_
          simp -failIfUnchanged (disch := first | omega | (simp [wcs_len] <;> omega) | fail) only [go_sem, simprocAttr, Nat.le_refl, List.length_set]
          obtain ⟨l0, l1, rfl⟩ := exL2 hcl
          simp [-List.map_set, withB, chunks, chunk, chunks_flat0]
  · have hs := hSi 3
    simp only [stC, restC, ccC, cellsC, rowsC, List.cons_append, List.nil_append] at hs
    rw [← hs]
    simp -failIfUnchanged (disch := first | omega | (simp [wcs_len] <;> omega) | fail) only [go_sem, simprocAttr]
    refine wcond_dec (fun h => ?_) (fun h => ?_)
    · have hlt : 3 < cords.length := by omega
      have hr0 := hrow 3 hlt
      simp -failIfUnchanged (disch := first | omega | (simp [wcs_len] <;> omega) | fail) only [go_sem, simprocAttr]
      refine lpx_norm ⟨4, by omega, by omega, ?_⟩
      have ht := hSi 4
      simp only [stC, restC, ccC, cellsC, rowsC, List.cons_append, List.nil_append] at ht
      rw [← ht]
      simp -failIfUnchanged (disch := first | omega | (simp [wcs_len] <;> omega) | fail) only [go_sem, simprocAttr]
      try simp
    · have hcl : cords.length = 3 := by omega
      clear hS hSi hs
      simp -failIfUnchanged (disch := first | omega | (simp [wcs_len] <;> omega) | fail) only [go_sem, simprocAttr]
      refine wcond_dec (fun h2 => ?_) (fun h2 => ?_)
      · simp -failIfUnchanged (disch := first | omega | (simp [wcs_len] <;> omega) | fail) only [go_sem, simprocAttr]
        rw [setAt_flat _ _ _ _ (by omega)]
        refine wopsN [K 1 0 0, K 2 0 0, K 2 1 0, K 2 2 0, K 3 0 2] ?_
        simp -failIfUnchanged (disch := first | omega | (simp [wcs_len] <;> omega) | fail) only [go_sem, simprocAttr, Nat.le_refl, List.length_set]
        obtain rfl : c = 3 := by omega
        obtain ⟨l0, l1, l2, rfl⟩ := exL3 hcl
        simp [-List.map_set, withB, chunks, chunk, chunks_flat0]
      · have hcj : c = 0 ∨ c = 1 ∨ c = 2 := by omega
        rcases hcj with rfl | rfl | rfl
        · have hr0 := hrow 0 (by omega)
          simp -failIfUnchanged (disch := first | omega | (simp [wcs_len] <;> omega) | fail) only [go_sem, simprocAttr]
          rw [setAt_flat _ _ _ _ (by omega)]
          refine wopsN [K 1 0 0, K 2 0 0, K 2 1 0, K 2 2 0, K 3 0 2] ?_
          simp -failIfUnchanged (disch := first | omega | (simp [wcs_len] <;> omega) | fail) only [go_sem, simprocAttr, Nat.le_refl, List.length_set]
          obtain ⟨l0, l1, l2, rfl⟩ := exL3 hcl
          simp [-List.map_set, withB, chunks, chunk, chunks_flat0]
        · have hr0 := hrow 1 (by omega)
          simp -failIfUnchanged (disch := first | omega | (simp [wcs_len] <;> omega) | fail) only [go_sem, simprocAttr]
          rw [setAt_flat _ _ _ _ (by omega)]
          refine wopsN [K 1 0 0, K 2 0 0, K 2 1 0, K 2 2 0, K 3 0 2] ?_
          simp -failIfUnchanged (disch := first | omega | (simp [wcs_len] <;> omega) | fail) only [go_sem, simprocAttr, Nat.le_refl, List.length_set]
          obtain ⟨l0, l1, l2, rfl⟩ := exL3 hcl
          simp [-List.map_set, withB, chunks, chunk, chunks_flat0]
        · have hr0 := hrow 2 (by omega)
          simp -failIfUnchanged (disch := first | omega | (simp [wcs_len] <;> omega) | fail) only [go_sem, simprocAttr]
          rw [setAt_flat _ _ _ _ (by omega)]
          refine wopsN [K 1 0 0, K 2 0 0, K 2 1 0, K 2 2 0, K 3 0 2] ?_
          simp -failIfUnchanged (disch := first | omega | (simp [wcs_len] <;> omega) | fail) only [go_sem, simprocAttr, Nat.le_refl, List.length_set]
          obtain ⟨l0, l1, l2, rfl⟩ := exL3 hcl
          simp [-List.map_set, withB, chunks, chunk, chunks_flat0]
  · have hs := hSi 4
    simp only [stC, restC, ccC, cellsC, rowsC, List.cons_append, List.nil_append] at hs
    rw [← hs]
    simp -failIfUnchanged (disch := first | omega | (simp [wcs_len] <;> omega) | fail) only [go_sem, simprocAttr]
    refine wcond_dec (fun h => ?_) (fun h => ?_)
    · omega
    · have hcl : cords.length = 4 := by omega
      clear hS hSi hs
      simp -failIfUnchanged (disch := first | omega | (simp [wcs_len] <;> omega) | fail) only [go_sem, simprocAttr]
      refine wcond_dec (fun h2 => ?_) (fun h2 => ?_)
      · simp -failIfUnchanged (disch := first | omega | (simp [wcs_len] <;> omega) | fail) only [go_sem, simprocAttr]
        rw [setAt_flat _ _ _ _ (by omega)]
        refine wopsN [K 1 0 0, K 2 0 0, K 2 1 0, K 2 2 0, K 2 3 0, K 3 0 3] ?_
        simp -failIfUnchanged (disch := first | omega | (simp [wcs_len] <;> omega) | fail) only [go_sem, simprocAttr, Nat.le_refl, List.length_set]
        obtain rfl : c = 4 := by omega
        obtain ⟨l0, l1, l2, l3, rfl⟩ := exL4 hcl
        simp [-List.map_set, withB, chunks, chunk, chunks_flat0]
      · have hcj : c = 0 ∨ c = 1 ∨ c = 2 ∨ c = 3 := by omega
        rcases hcj with rfl | rfl | rfl | rfl
        · have hr0 := hrow 0 (by omega)
          simp -failIfUnchanged (disch := first | omega | (simp [wcs_len] <;> omega) | fail) only [go_sem, simprocAttr]
          rw [setAt_flat _ _ _ _ (by omega)]
          refine wopsN [K 1 0 0, K 2 0 0, K 2 1 0, K 2 2 0, K 2 3 0, K 3 0 3] ?_
          simp -failIfUnchanged (disch := first | omega | (simp [wcs_len] <;> omega) | fail) only [go_sem, simprocAttr, Nat.le_refl, List.length_set]
          obtain ⟨l0, l1, l2, l3, rfl⟩ := exL4 hcl
          simp [-List.map_set, withB, chunks, chunk, chunks_flat0]
        · have hr0 := hrow 1 (by omega)
          simp -failIfUnchanged (disch := first | omega | (simp [wcs_len] <;> omega) | fail) only [go_sem, simprocAttr]
          rw [setAt_flat _ _ _ _ (by omega)]
          refine wopsN [K 1 0 0, K 2 0 0, K 2 1 0, K 2 2 0, K 2 3 0, K 3 0 3] ?_
          simp -failIfUnchanged (disch := first | omega | (simp [wcs_len] <;> omega) | fail) only [go_sem, simprocAttr, Nat.le_refl, List.length_set]
          obtain ⟨l0, l1, l2, l3, rfl⟩ := exL4 hcl
          simp [-List.map_set, withB, chunks, chunk, chunks_flat0]
        · have hr0 := hrow 2 (by omega)
          simp -failIfUnchanged (disch := first | omega | (simp [wcs_len] <;> omega) | fail) only [go_sem, simprocAttr]
          rw [setAt_flat _ _ _ _ (by omega)]
          refine wopsN [K 1 0 0, K 2 0 0, K 2 1 0, K 2 2 0, K 2 3 0, K 3 0 3] ?_
          simp -failIfUnchanged (disch := first | omega | (simp [wcs_len] <;> omega) | fail) only [go_sem, simprocAttr, Nat.le_refl, List.length_set]
          obtain ⟨l0, l1, l2, l3, rfl⟩ := exL4 hcl
          simp [-List.map_set, withB, chunks, chunk, chunks_flat0]
        · have hr0 := hrow 3 (by omega)
          simp -failIfUnchanged (disch := first | omega | (simp [wcs_len] <;> omega) | fail) only [go_sem, simprocAttr]
          rw [setAt_flat _ _ _ _ (by omega)]
          refine wopsN [K 1 0 0, K 2 0 0, K 2 1 0, K 2 2 0, K 2 3 0, K 3 0 3] ?_
          simp -failIfUnchanged (disch := first | omega | (simp [wcs_len] <;> omega) | fail) only [go_sem, simprocAttr, Nat.le_refl, List.length_set]
          obtain ⟨l0, l1, l2, l3, rfl⟩ := exL4 hcl
          simp [-List.map_set, withB, chunks, chunk, chunks_flat0]

end Go.Proofs.Ytkkiipjfbebipaa

/- With: what the laws with it share. -/
set_option linter.unusedSimpArgs false
set_option linter.unusedVariables false
set_option linter.unnecessarySimpa false
namespace Go.Proofs.Ytkkiipjfbebipaa
open Go Go.V

theorem check_of_val {b : Bk} (hv : Val b) : checkB b = true := by
  obtain ⟨h1, h2, h3, h4, h5, h6⟩ := hv
  have key : ∀ l : List Sp, (l.length : Int) = b.places → (∀ s ∈ l, 0 ≤ s.lo ∧ s.lo ≤ s.hi ∧ s.hi < b.base) → isCordB b l = true := by
    intro l hl hs
    simp only [isCordB, hl, decide_true, Bool.true_and, Bool.not_eq_true', List.any_eq_false]
    intro s hs'
    have := hs s hs'
    simp only [badS, within, Bool.or_eq_true, Bool.not_eq_true', decide_eq_false_iff_not, decide_eq_true_eq, not_or, Decidable.not_not]
    omega
  simp only [checkB, within, Bool.and_eq_true, decide_eq_true_eq, Bool.not_eq_true', List.any_eq_false]
  refine ⟨h1, h2, by omega, fun l hl => ?_, key b.top h5 h6⟩
  simp [key l (h4 l hl).1 (h4 l hl).2]

theorem c33r (b : Bk) (hv : Val b) (c p : Nat) (s : Sp) (hc : c ≤ b.cords.length) (hp : p < b.places.toNat) : Ctr Try.prog 33 [KB b, .int c, .int p, SP s] (KB (withB b c p s)) := by
  obtain ⟨base, places, cords, top⟩ := b
  have h2 := hv.hp
  exact c33 base places cords top c p s (by dsimp only at h2; omega) hv.hc (fun l hl => (hv.cord l hl).1) hv.top.1 hc (by dsimp only at hp h2 ⊢; omega)

theorem small_with {b : Bk} (hv : Val b) (c p : Nat) (s : Sp) : Small (withB b c p s) := by
  have h1 := hv.hc
  have h2 := hv.hp
  have h3 := hv.top.1
  refine small_small ?_
  have hl : ∀ l ∈ (withB b c p s).cords, l.length ≤ 40 := by
    intro l hl
    unfold withB at hl
    split at hl
    · have := (hv.cord l hl).1; omega
    · rcases List.mem_or_eq_of_mem_set hl with h | h
      · have := (hv.cord l h).1; omega
      · subst h
        rw [List.length_set]
        rcases Nat.lt_or_ge c b.cords.length with hc | hc
        · have := (hv.cord _ (mem_getD hc)).1; omega
        · rw [List.getElem?_eq_none hc]; simp; exact Nat.zero_le _
  have ht : (withB b c p s).top.length ≤ 40 := by
    unfold withB
    split
    · simp only [List.length_set]; omega
    · simp only; omega
  have hn := withB_len b c p s
  simp only [hugeB, Bool.or_eq_false_iff, decide_eq_false_iff_not, List.any_eq_false, decide_eq_true_eq]
  refine ⟨by omega, by omega, fun l h => ?_⟩
  have := hl l h
  omega

theorem many_ok {b : Bk} (hc0 : checkB b = true) : manyR2 b = (((allNs b).length : Int), 0) := by
  unfold manyR2
  rw [hc0, if_pos rfl]

theorem c34k (b : Bk) (hs : Small b) (hc0 : checkB b = true) : Ctr Try.prog 34 [KB b] (.tup [.int ((allNs b).length : Nat), .int 0]) := by
  have := c34r b hs
  rw [many_ok hc0] at this
  exact this

theorem c23k (b : Bk) (hs : Small b) (hc0 : checkB b = true) : Ctr Try.prog 23 [KB b] (.tup [.int (leastB b), .int 0]) := by
  have := c23 b hs
  rw [hc0, if_pos rfl, least_k (val_of_check hc0)] at this
  exact this

theorem least_pos {b : Bk} (hv : Val b) : 0 ≤ leastB b := by
  obtain ⟨_, l, _, h2⟩ := least_spec hv
  have := (costN_bd hv l).1
  omega

end Go.Proofs.Ytkkiipjfbebipaa

/- KnotsRetied. -/
set_option linter.unusedSimpArgs false
set_option linter.unusedVariables false
set_option linter.unnecessarySimpa false
namespace Go.Proofs.Ytkkiipjfbebipaa
open Go Go.V

theorem c36 (e : Int) : Ctr Try.prog 36 [.int e] (.bool (decide (e = 0) || decide (e = 3))) := by
  refine ctr_of_wp hmix Try.func36 m36 rfl ?_
  unfold v36
  simp -failIfUnchanged (disch := first | omega | (simp [wcs_len] <;> omega) | fail) only [go_sem, simprocAttr]
  refine WGd_bool (fun h => ?_) (fun h => ?_)
  · simp -failIfUnchanged (disch := first | omega | (simp [wcs_len] <;> omega) | fail) only [go_sem, simprocAttr, h]
  · simp -failIfUnchanged (disch := first | omega | (simp [wcs_len] <;> omega) | fail) only [go_sem, simprocAttr, h]

theorem c37 (l : List Int) (lo hi : Int) (hl : l.length < 4294967296) (h1 : ∀ x ∈ l, within x lo hi = true) (h2 : ∀ i, i + 1 < l.length → l[i]?.getD default < l[i + 1]?.getD default) : Ctr Try.prog 37 [IS l, .int lo, .int hi] (.bool true) := by
  refine ctr_of_wp hmix Try.func37 m37 rfl ?_
  unfold v37 IS
  simp -failIfUnchanged (disch := first | omega | (simp [wcs_len] <;> omega) | fail) only [go_sem, simprocAttr]
  refine wp_loop' Nat (fun i => ⟨[(0, IS l), (1, .int lo), (2, .int hi), (7, .int (i : Nat))], [], [], none⟩) (fun i => i ≤ l.length) (fun i => l.length - i) 0 (by simp) (by unfold IS; simp -failIfUnchanged (disch := first | omega | (simp [wcs_len] <;> omega) | fail) only [go_sem, simprocAttr]; try simp) ?_
  intro i hi'
  unfold IS
  simp -failIfUnchanged (disch := first | omega | (simp [wcs_len] <;> omega) | fail) only [go_sem, simprocAttr]
  refine wcond_dec (fun h => ?_) (fun h => ?_)
  · have hlt : i < l.length := by omega
    simp -failIfUnchanged (disch := first | omega | (simp [wcs_len] <;> omega) | fail) only [go_sem, simprocAttr]
    refine wcall (c40 _ _ _) ?_
    have hw := h1 _ (mem_getD hlt)
    simp -failIfUnchanged (disch := first | omega | (simp [wcs_len] <;> omega) | fail) only [go_sem, simprocAttr, hw]
    refine WGd_bool (fun h3 => ?_) (fun h3 => ?_)
    · have hpos : 0 < i := by simpa using h3
      obtain ⟨k, rfl⟩ : ∃ k, i = k + 1 := ⟨i - 1, by omega⟩
      have e1 : (((k + 1 : Nat) : Int) - 1) = (k : Nat) := by omega
      have e2 := h2 k hlt
      simp -failIfUnchanged (disch := first | omega | (simp [wcs_len] <;> omega) | fail) only [go_sem, simprocAttr, h3, e1, Int.toNat_natCast]
      have e3 : decide (l[k + 1]?.getD default ≤ l[k]?.getD default) = false := by simp; omega
      simp -failIfUnchanged (disch := first | omega | (simp [wcs_len] <;> omega) | fail) only [go_sem, simprocAttr, h3, e1, e3]
      refine ⟨k + 2, by dsimp only; omega, by dsimp only; omega, ?_⟩
      simp -failIfUnchanged (disch := first | omega | (simp [wcs_len] <;> omega) | fail) only [go_sem, simprocAttr]
      try simp
      try omega
    · simp -failIfUnchanged (disch := first | omega | (simp [wcs_len] <;> omega) | fail) only [go_sem, simprocAttr, h3]
      refine ⟨i + 1, by dsimp only; omega, by dsimp only; omega, ?_⟩
      simp -failIfUnchanged (disch := first | omega | (simp [wcs_len] <;> omega) | fail) only [go_sem, simprocAttr]
      try simp
  · simp -failIfUnchanged (disch := first | omega | (simp [wcs_len] <;> omega) | fail) only [go_sem, simprocAttr]

theorem blL_rise (b : Bk) (k : Nat) : (∀ x ∈ blL b k, 0 ≤ x ∧ x < k) ∧ (∀ i, i + 1 < (blL b k).length → (blL b k)[i]?.getD default < (blL b k)[i + 1]?.getD default) ∧ (blL b k).length ≤ k := by
  have hp : List.Pairwise (· < ·) (blL b k) := by
    unfold blL
    rw [List.pairwise_map]
    refine List.Pairwise.imp ?_ (List.Pairwise.filter _ List.pairwise_lt_range)
    intro a c h
    omega
  refine ⟨fun x hx => ?_, fun i hi => ?_, ?_⟩
  · unfold blL at hx
    obtain ⟨n, hn, rfl⟩ := List.mem_map.1 hx
    have := List.mem_range.1 (List.mem_filter.1 hn).1
    omega
  · have := List.pairwise_iff_getElem.1 hp i (i + 1) (by omega) hi (by omega)
    rw [List.getElem?_eq_getElem (by omega), List.getElem?_eq_getElem hi]
    exact this
  · unfold blL
    rw [List.length_map]
    exact Nat.le_trans (List.length_filter_le _ _) (by simp)

theorem least_bd {b : Bk} (hv : Val b) : leastB b ≤ 200 := by
  obtain ⟨_, l, _, h2⟩ := least_spec hv
  have := (costN_bd hv l).2
  omega

theorem c6 (b : Bk) (h1 : b.cords.length < 9223372036854775808) (n c p : Int) : Ctr Try.prog 6 [KB b, .agg [.int n, .int c, .int p]] (.bool true) := by
  refine ctr_of_wp hmix Try.func6 m6 rfl ?_
  unfold v6
  simp -failIfUnchanged (disch := first | omega | (simp [wcs_len] <;> omega) | fail) only [go_sem, simprocAttr]
  refine wcall (c28 b h1) ?_
  cases hrd : (!hugeB b && checkB b) with
  | false =>
    simp -failIfUnchanged (disch := first | omega | (simp [wcs_len] <;> omega) | fail) only [go_sem, simprocAttr]
    refine wcall c17 ?_
    simp -failIfUnchanged (disch := first | omega | (simp [wcs_len] <;> omega) | fail) only [go_sem, simprocAttr]
  | true =>
    simp only [Bool.and_eq_true, Bool.not_eq_true'] at hrd
    obtain ⟨hh, hc0⟩ := hrd
    have hs := small_small hh
    have hv := val_of_check hc0
    have hcl := hv.hc
    simp -failIfUnchanged (disch := first | omega | (simp [wcs_len] <;> omega) | fail) only [go_sem, simprocAttr]
    refine WGd_bool (fun h3 => ?_) (fun h3 => ?_)
    · simp -failIfUnchanged (disch := first | omega | (simp [wcs_len] <;> omega) | fail) only [go_sem, simprocAttr, h3]
      refine wcall (c29 b c) ?_
      cases h4 : within c 0 b.cords.length with
      | false =>
        simp -failIfUnchanged (disch := first | omega | (simp [wcs_len] <;> omega) | fail) only [go_sem, simprocAttr]
        refine wcall c17 ?_
        simp -failIfUnchanged (disch := first | omega | (simp [wcs_len] <;> omega) | fail) only [go_sem, simprocAttr]
      | true =>
        simp -failIfUnchanged (disch := first | omega | (simp [wcs_len] <;> omega) | fail) only [go_sem, simprocAttr]
        refine wcall (c30 b p) ?_
        cases h5 : within p 0 (w64 (b.places - 1)) with
        | false =>
          simp -failIfUnchanged (disch := first | omega | (simp [wcs_len] <;> omega) | fail) only [go_sem, simprocAttr]
          refine wcall c17 ?_
          simp -failIfUnchanged (disch := first | omega | (simp [wcs_len] <;> omega) | fail) only [go_sem, simprocAttr]
        | true =>
          have hpp := hv.hp
          have hbb := hv.hb
          obtain ⟨cn, rfl, hcn⟩ : ∃ cn : Nat, c = cn ∧ cn ≤ b.cords.length := ⟨c.toNat, by simp [within] at h4; omega, by simp [within] at h4; omega⟩
          obtain ⟨pn, rfl, hpn⟩ : ∃ pn : Nat, p = pn ∧ pn < b.places.toNat := ⟨p.toNat, by simp [within] at h5; omega, by rw [w64_id (by omega)] at h5; simp [within] at h5; omega⟩
          have hl0 := least_pos hv
          have hl1 := least_bd hv
          have hlz := least_zero hv
          have hlen : (cordAt b cn).length = b.places.toNat := by have := (cordAt_val hv hcn).1; omega
          have hsp := (cordAt_val hv hcn).2 _ (mem_getD (show pn < (cordAt b cn).length by omega))
          -- behind the first conditions
          have hbl : ∃ (l : List Int) (g : Int), blameV b = (l, g) ∧ (decide (g = 0) || decide (g = 3)) = true ∧ (decide (g = 0) = decide (0 < leastB b)) ∧ (decide (g = 0) = decide (0 < (l.length : Int))) ∧ (l.length : Int) ≤ b.cords.length + 1 ∧
              (∀ x ∈ l, within x 0 b.cords.length = true) ∧ (∀ i, i + 1 < l.length → l[i]?.getD default < l[i + 1]?.getD default) := by
            unfold blameV
            rw [hc0, if_pos rfl]
            by_cases h0 : leastB b = 0
            · rw [if_pos h0]
              exact ⟨_, _, rfl, by decide, by simp [h0], by simp, by simp; omega, fun x hx => by simp at hx, fun i hi => by simp at hi⟩
            · rw [if_neg h0]
              obtain ⟨r1, r2, r3⟩ := blL_rise b (b.cords.length + 1)
              have hne : (blL b (b.cords.length + 1)).length ≠ 0 := fun h => h0 ((blL_none hv).1 h)
              refine ⟨_, _, rfl, by decide, ?_, ?_, by omega, fun x hx => ?_, r2⟩
              · simp; omega
              · simp; omega
              · have := r1 x hx
                simp [within]; omega
          obtain ⟨l, g, hbv, hg1, hg2, hg3, hg4, hg5, hg6⟩ := hbl
          have hz1 : (decide (leastB b = 0) == decide (0 < ((allNs b).length : Int))) = true := by
            simp only [beq_iff_eq, decide_eq_decide]
            rw [hlz]; omega
          have e1 : decide (leastB b < 0) = false := by simp; omega
          have e2 : decide (((b.cords.length : Int) + 1) < (l.length : Int)) = false := by simp; omega
          simp -failIfUnchanged (disch := first | omega | (simp [wcs_len] <;> omega) | fail) only [go_sem, simprocAttr]
          refine wcall (c23k b hs hc0) ?_
          simp -failIfUnchanged (disch := first | omega | (simp [wcs_len] <;> omega) | fail) only [go_sem, simprocAttr]
          refine wcall (c34k b hs hc0) ?_
          simp -failIfUnchanged (disch := first | omega | (simp [wcs_len] <;> omega) | fail) only [go_sem, simprocAttr]
          refine wcall (c25r b hs) ?_
          rw [hbv]
          simp -failIfUnchanged (disch := first | omega | (simp [wcs_len] <;> omega) | fail) only [go_sem, simprocAttr]
          refine wcall (c36 g) ?_
          have hg2' : (decide (g = 0) == decide (0 < leastB b)) = true := by rw [hg2]; exact beq_self_eq_true _
          have hg3' : (decide (g = 0) == decide (0 < (l.length : Int))) = true := by rw [hg3]; exact beq_self_eq_true _
          simp -failIfUnchanged (disch := first | omega | (simp [wcs_len] <;> omega) | fail) only [go_sem, simprocAttr, hg1, e1, hz1, hg2', hg3', e2]
          refine wcall (c37 l 0 b.cords.length (by omega) hg5 hg6) ?_
          simp -failIfUnchanged (disch := first | omega | (simp [wcs_len] <;> omega) | fail) only [go_sem, simprocAttr]
          refine wcall (c32 b cn hcn) ?_
          simp -failIfUnchanged (disch := first | omega | (simp [wcs_len] <;> omega) | fail) only [go_sem, simprocAttr]
          obtain ⟨sp, hspe⟩ : ∃ sp, (cordAt b cn)[pn]?.getD default = sp := ⟨_, rfl⟩
          have hcs : cordSp b cn pn = sp := hspe
          rw [hspe] at hsp
          simp -failIfUnchanged (disch := first | omega | (simp [wcs_len] <;> omega) | fail) only [go_sem, simprocAttr, hspe]
          refine wcall (c33r b hv cn pn ⟨sp.lo - 1, sp.hi⟩ hcn hpn) ?_
          simp -failIfUnchanged (disch := first | omega | (simp [wcs_len] <;> omega) | fail) only [go_sem, simprocAttr]
          refine wcall (c33r b hv cn pn ⟨sp.lo, sp.hi + 1⟩ hcn hpn) ?_
          have near : ∀ t : Sp, (∀ d : Nat, costL sp d - 1 ≤ costL t d ∧ costL t d ≤ costL sp d) → checkB (withB b cn pn t) = true → leastB b - 1 ≤ leastB (withB b cn pn t) ∧ leastB (withB b cn pn t) ≤ leastB b := by
            intro t ht hc'
            exact least_near hv hcn hpn (val_of_check hc') (fun d => by rw [hcs]; exact ht d)
          have near1 := near ⟨sp.lo - 1, sp.hi⟩ (cost_less hsp.2.1)
          have near2 := near ⟨sp.lo, sp.hi + 1⟩ (cost_more hsp.2.1)
          have sm1 := small_with hv cn pn ⟨sp.lo - 1, sp.hi⟩
          have sm2 := small_with hv cn pn ⟨sp.lo, sp.hi + 1⟩
          have wl1 := withB_len b cn pn ⟨sp.lo - 1, sp.hi⟩
          have wl2 := withB_len b cn pn ⟨sp.lo, sp.hi + 1⟩
          generalize withB b cn pn ⟨sp.lo - 1, sp.hi⟩ = b1 at *
          generalize withB b cn pn ⟨sp.lo, sp.hi + 1⟩ = b2 at *
          clear near hbv
          simp -failIfUnchanged (disch := first | omega | (simp [wcs_len] <;> omega) | fail) only [go_sem, simprocAttr]
          refine wcall (c28 b1 (by omega)) ?_
          cases hq1 : (!hugeB b1 && checkB b1) with
          | false =>
            simp -failIfUnchanged (disch := first | omega | (simp [wcs_len] <;> omega) | fail) only [go_sem, simprocAttr]
            refine wcall (c28 b2 (by omega)) ?_
            cases hq2 : (!hugeB b2 && checkB b2) with
            | false =>
              simp -failIfUnchanged (disch := first | omega | (simp [wcs_len] <;> omega) | fail) only [go_sem, simprocAttr]
              refine wcall c17 ?_
              simp -failIfUnchanged (disch := first | omega | (simp [wcs_len] <;> omega) | fail) only [go_sem, simprocAttr]
            | true =>
              simp only [Bool.and_eq_true, Bool.not_eq_true'] at hq2
              obtain ⟨n21, n22⟩ := near2 hq2.2
              have f1 : decide (leastB b < leastB b2) = false := by simp; omega
              have f2 : decide (leastB b2 < leastB b - 1) = false := by simp; omega
              simp -failIfUnchanged (disch := first | omega | (simp [wcs_len] <;> omega) | fail) only [go_sem, simprocAttr]
              refine wcall (c23k b2 sm2 hq2.2) ?_
              simp -failIfUnchanged (disch := first | omega | (simp [wcs_len] <;> omega) | fail) only [go_sem, simprocAttr, f1, f2]
              refine wcall c17 ?_
              simp -failIfUnchanged (disch := first | omega | (simp [wcs_len] <;> omega) | fail) only [go_sem, simprocAttr]
          | true =>
            simp only [Bool.and_eq_true, Bool.not_eq_true'] at hq1
            obtain ⟨n11, n12⟩ := near1 hq1.2
            have e3 : decide (leastB b < leastB b1) = false := by simp; omega
            have e4 : decide (leastB b1 < leastB b - 1) = false := by simp; omega
            simp -failIfUnchanged (disch := first | omega | (simp [wcs_len] <;> omega) | fail) only [go_sem, simprocAttr]
            refine wcall (c23k b1 sm1 hq1.2) ?_
            simp -failIfUnchanged (disch := first | omega | (simp [wcs_len] <;> omega) | fail) only [go_sem, simprocAttr, e3, e4]
            refine wcall (c28 b2 (by omega)) ?_
            cases hq2 : (!hugeB b2 && checkB b2) with
            | false =>
              simp -failIfUnchanged (disch := first | omega | (simp [wcs_len] <;> omega) | fail) only [go_sem, simprocAttr]
              refine wcall c17 ?_
              simp -failIfUnchanged (disch := first | omega | (simp [wcs_len] <;> omega) | fail) only [go_sem, simprocAttr]
            | true =>
              simp only [Bool.and_eq_true, Bool.not_eq_true'] at hq2
              obtain ⟨n21, n22⟩ := near2 hq2.2
              have f1 : decide (leastB b < leastB b2) = false := by simp; omega
              have f2 : decide (leastB b2 < leastB b - 1) = false := by simp; omega
              simp -failIfUnchanged (disch := first | omega | (simp [wcs_len] <;> omega) | fail) only [go_sem, simprocAttr]
              refine wcall (c23k b2 sm2 hq2.2) ?_
              simp -failIfUnchanged (disch := first | omega | (simp [wcs_len] <;> omega) | fail) only [go_sem, simprocAttr, f1, f2]
              refine wcall c17 ?_
              simp -failIfUnchanged (disch := first | omega | (simp [wcs_len] <;> omega) | fail) only [go_sem, simprocAttr]
    · simp -failIfUnchanged (disch := first | omega | (simp [wcs_len] <;> omega) | fail) only [go_sem, simprocAttr, h3]
      refine wcall c17 ?_
      simp -failIfUnchanged (disch := first | omega | (simp [wcs_len] <;> omega) | fail) only [go_sem, simprocAttr]

end Go.Proofs.Ytkkiipjfbebipaa

/- Plain law for KnotsCount: the cluster to be counted. -/
set_option linter.unusedSimpArgs false
set_option linter.unusedVariables false
set_option linter.unnecessarySimpa false
namespace Go.Proofs.Ytkkiipjfbebipaa
open Go Go.V

theorem sums_nodup (b : Bk) (f : Bool) : ∀ (k : Nat) (first : List Nat), (sumsN b f k first).Pairwise (· ≠ ·)
  | 0, first => by
    unfold sumsN
    split <;> simp
  | k + 1, first => by
    unfold sumsN
    rw [List.pairwise_flatMap]
    refine ⟨fun n _ => sums_nodup b f k (first ++ [n]), ?_⟩
    have h0 : ((List.range (allN b)).filter (isN b first.length f)).Pairwise (· < ·) := List.Pairwise.filter _ List.pairwise_lt_range
    refine List.Pairwise.imp ?_ h0
    intro n m hnm x hx y hy e
    subst e
    have h1 := sums_pre b f k (first ++ [n]) x hx first.length (by simp)
    have h2 := sums_pre b f k (first ++ [m]) x hy first.length (by simp)
    rw [h1] at h2
    simp at h2
    omega

def wstA (b : Bk) (c p : Nat) : Nat := wstN b (allNs b) c p (allNs b).length

theorem cntN_all (b : Bk) (c p d : Nat) : cntN b (allNs b) c p (allNs b).length d = ((allNs b).filter fun l => decide (dgN b l c p = d)).length := by
  unfold cntN
  rw [List.take_length, ← sumF_len, sumF_filter]
  refine sumF_congr fun l _ => ?_
  by_cases h : dgN b l c p = d <;> simp [h]

/-- Where there are two readings, some cluster parts them. -/
theorem wst_parts {b : Bk} (hv : Val b) (h2 : 2 ≤ (allNs b).length) : ∃ c p, c ≤ b.cords.length ∧ p < b.places.toNat ∧ wstA b c p < (allNs b).length := by
  apply Classical.byContradiction
  intro hno
  have hall : ∀ c p, c ≤ b.cords.length → p < b.places.toNat → (allNs b).length ≤ wstA b c p := by
    intro c p hc hp
    apply Classical.byContradiction
    intro h
    exact hno ⟨c, p, hc, hp, by omega⟩
  have hB : 0 < b.base.toNat := by have := hv.hb; omega
  have hsame : ∀ c p, c ≤ b.cords.length → p < b.places.toNat → ∀ l ∈ allNs b, ∀ m ∈ allNs b, dgN b l c p = dgN b m c p := by
    intro c p hc hp l hl m hm
    have h1 := hall c p hc hp
    rcases (wstN_spec hB (allNs b) c p (allNs b).length (Nat.le_refl _)).2 with h | ⟨d, _, h⟩
    · unfold wstA at h1; omega
    · have h3 : ((allNs b).filter fun l => decide (dgN b l c p = d)).length = (allNs b).length := by
        have := cntN_le b (allNs b) c p (allNs b).length d
        rw [← cntN_all]
        unfold wstA at h1
        omega
      have h4 := List.length_filter_eq_length_iff.1 h3
      have a1 := h4 l hl
      have a2 := h4 m hm
      simp only [decide_eq_true_eq] at a1 a2
      rw [a1, a2]
  have hl0 : (allNs b)[0] ∈ allNs b := List.getElem_mem _
  have hl1 : (allNs b)[1] ∈ allNs b := List.getElem_mem _
  have hne : (allNs b)[0] ≠ (allNs b)[1] := by
    have := List.pairwise_iff_getElem.1 (sums_nodup b false b.cords.length []) 0 1 (by unfold allNs at h2; omega) (by unfold allNs at h2; omega) (by omega)
    exact this
  obtain ⟨n0, k0⟩ := allNs_mem hl0
  obtain ⟨n1, k1⟩ := allNs_mem hl1
  apply hne
  apply List.ext_getElem (by omega)
  intro c hc0 hc1
  have hc : c ≤ b.cords.length := by omega
  have e1 : (allNs b)[0][c]?.getD default = (allNs b)[0][c] := by simp [hc0]
  have e2 : (allNs b)[1][c]?.getD default = (allNs b)[1][c] := by simp [hc1]
  have hb := hv.hb
  have hpp := hv.hp
  have ht : tieN b.base.toNat b.places.toNat ((allNs b)[0][c]) = tieN b.base.toNat b.places.toNat ((allNs b)[1][c]) := by
    apply List.ext_getElem?
    intro p
    rcases Nat.lt_or_ge p b.places.toNat with hp | hp
    · have h := hsame c p hc hp _ hl0 _ hl1
      have t0 := tieN_at b.base.toNat b.places.toNat ((allNs b)[0][c]) p hp
      have t1 := tieN_at b.base.toNat b.places.toNat ((allNs b)[1][c]) p hp
      unfold dgN at h
      rw [e1, e2] at h
      have q0 : p < (tieN b.base.toNat b.places.toNat ((allNs b)[0][c])).length := by rw [tieN_len]; exact hp
      have q1 : p < (tieN b.base.toNat b.places.toNat ((allNs b)[1][c])).length := by rw [tieN_len]; exact hp
      rw [List.getElem?_eq_getElem q0] at t0 ⊢
      rw [List.getElem?_eq_getElem q1] at t1 ⊢
      simp only [Option.getD_some] at t0 t1
      rw [t0, t1, h]
    · rw [List.getElem?_eq_none (by rw [tieN_len]; omega), List.getElem?_eq_none (by rw [tieN_len]; omega)]
  have g0 := numL_tie b.base.toNat (by omega) b.places.toNat ((allNs b)[0][c]) (by omega) (k0 _ (List.getElem_mem _))
  have g1 := numL_tie b.base.toNat (by omega) b.places.toNat ((allNs b)[1][c]) (by omega) (k1 _ (List.getElem_mem _))
  rw [ht] at g0
  rw [g0] at g1
  exact_mod_cast g1

theorem wst_pos {b : Bk} (hv : Val b) (h1 : 1 ≤ (allNs b).length) {c p : Nat} : 1 ≤ wstA b c p := by
  have hB : 0 < b.base.toNat := by have := hv.hb; omega
  have h := (wstN_spec hB (allNs b) c p (allNs b).length (Nat.le_refl _)).1 (dgN b (allNs b)[0] c p)
  rw [cntN_all] at h
  have : 0 < ((allNs b).filter fun l => decide (dgN b l c p = dgN b (allNs b)[0] c p)).length := List.length_pos_of_mem (List.mem_filter.2 ⟨List.getElem_mem (l := allNs b) (n := 0) (by omega), by simp⟩)
  unfold wstA
  omega

/-- The least of all. -/
structure Lst (b : Bk) (s : As3) (P : Nat → Nat → Prop) : Prop where
  w : s.w = wstA b s.c.toNat s.p.toNat ∧ P s.c.toNat s.p.toNat ∧ 0 ≤ s.c ∧ 0 ≤ s.p
  le : ∀ c p, P c p → s.w ≤ wstA b c p ∧ (s.w = wstA b c p → s.c < c ∨ (s.c = c ∧ s.p ≤ p))

theorem lst_step {b : Bk} {s : As3} {P P' : Nat → Nat → Prop} {c p : Nat} (h : Lst b s P ∨ ((∀ x y, ¬ P x y) ∧ s.w = (allNs b).length + 1)) (hP : ∀ x y, P' x y ↔ P x y ∨ (x = c ∧ y = p)) (hlex : ∀ x y, P x y → x < c ∨ (x = c ∧ y < p)) :
    Lst b (aStep b (allNs b) c s p) P' := by
  have hwl : wstA b c p ≤ (allNs b).length := wstN_le b (allNs b) c p _
  unfold aStep
  rcases h with h | ⟨h0, hw⟩
  · obtain ⟨w1, w2, w3, w4⟩ := h.w
    by_cases hlt : (wstN b (allNs b) c p (allNs b).length : Int) < s.w
    · rw [if_pos hlt]
      refine ⟨⟨by simp [wstA], by rw [hP]; exact .inr (by simp), by simp, by simp⟩, fun x y hxy => ?_⟩
      rw [hP] at hxy
      rcases hxy with hxy | ⟨rfl, rfl⟩
      · have := (h.le x y hxy).1
        dsimp only
        refine ⟨by omega, fun e => by omega⟩
      · exact ⟨by simp [wstA], fun _ => .inr ⟨rfl, Int.le_refl _⟩⟩
    · rw [if_neg hlt]
      refine ⟨⟨w1, by rw [hP]; exact .inl w2, w3, w4⟩, fun x y hxy => ?_⟩
      rw [hP] at hxy
      rcases hxy with hxy | ⟨rfl, rfl⟩
      · exact h.le x y hxy
      · have hl := hlex _ _ w2
        unfold wstA
        refine ⟨by omega, fun _ => by omega⟩
  · rw [if_pos (by unfold wstA at hwl; omega)]
    refine ⟨⟨by simp [wstA], by rw [hP]; exact .inr (by simp), by simp, by simp⟩, fun x y hxy => ?_⟩
    rw [hP] at hxy
    rcases hxy with hxy | ⟨rfl, rfl⟩
    · exact absurd hxy (h0 x y)
    · exact ⟨by simp [wstA], fun _ => .inr ⟨rfl, Int.le_refl _⟩⟩

theorem lst_row {b : Bk} {s : As3} {c P : Nat} (h : Lst b s (fun x y => x < c ∧ y < P) ∨ ((∀ x y, ¬ (x < c ∧ y < P)) ∧ s.w = (allNs b).length + 1)) : ∀ k, k ≤ P →
    Lst b (aRow b (allNs b) c s k) (fun x y => (x < c ∧ y < P) ∨ (x = c ∧ y < k)) ∨ ((∀ x y, ¬ ((x < c ∧ y < P) ∨ (x = c ∧ y < k))) ∧ (aRow b (allNs b) c s k).w = (allNs b).length + 1)
  | 0, _ => by
    have e : (fun x y => (x < c ∧ y < P) ∨ (x = c ∧ y < 0)) = fun x y => x < c ∧ y < P := by
      funext x y
      apply propext
      omega
    simp only [e]
    rcases h with h | ⟨h1, h2⟩
    · exact .inl h
    · exact .inr ⟨fun x y hh => h1 x y (by omega), h2⟩
  | k + 1, hk => by
    rw [aRow_succ]
    have ih := lst_row h k (by omega)
    exact .inl (lst_step ih (fun x y => by omega) (fun x y hh => by omega))

theorem lst_all {b : Bk} (hv : Val b) : ∀ k, Lst b (aAll b (allNs b) k) (fun x y => x < k ∧ y < b.places.toNat) ∨ ((∀ x y, ¬ (x < k ∧ y < b.places.toNat)) ∧ (aAll b (allNs b) k).w = (allNs b).length + 1)
  | 0 => .inr ⟨fun x y h => by omega, rfl⟩
  | k + 1 => by
    rw [aAll_succ]
    have hpp := hv.hp
    have h := lst_row (lst_all hv k) b.places.toNat (Nat.le_refl _)
    have e : (fun x y => (x < k ∧ y < b.places.toNat) ∨ (x = k ∧ y < b.places.toNat)) = fun x y => x < k + 1 ∧ y < b.places.toNat := by
      funext x y
      apply propext
      omega
    rw [e] at h
    rcases h with h | ⟨h, _⟩
    · exact .inl h
    · exact absurd (show (k < k ∧ 0 < b.places.toNat) ∨ (k = k ∧ 0 < b.places.toNat) by omega) (h k 0)

theorem ask_spec {b : Bk} (hv : Val b) : Lst b (aAll b (allNs b) (b.cords.length + 1)) (fun x y => x < b.cords.length + 1 ∧ y < b.places.toNat) := by
  have hpp := hv.hp
  rcases lst_all hv (b.cords.length + 1) with h | ⟨h, _⟩
  · exact h
  · exact absurd (show 0 < b.cords.length + 1 ∧ 0 < b.places.toNat by omega) (h 0 0)

end Go.Proofs.Ytkkiipjfbebipaa

/- KnotsCount. -/
set_option linter.unusedSimpArgs false
set_option linter.unusedVariables false
set_option linter.unnecessarySimpa false
namespace Go.Proofs.Ytkkiipjfbebipaa
open Go Go.V

/-- The greatest count of readings that have one digit. -/
def mxD (b : Bk) (c p lo : Nat) : Nat → Nat
  | 0 => 0
  | k + 1 => max (mxD b c p lo k) (cntN b (allNs b) c p (allNs b).length (lo + k))

theorem mxD_ge (b : Bk) (c p lo : Nat) : ∀ k i, i < k → cntN b (allNs b) c p (allNs b).length (lo + i) ≤ mxD b c p lo k
  | 0, i, h => by omega
  | k + 1, i, h => by
    unfold mxD
    rcases Nat.lt_or_ge i k with h1 | h1
    · have := mxD_ge b c p lo k i h1; omega
    · obtain rfl : i = k := by omega
      omega

theorem mxD_is {b : Bk} (hv : Val b) (c p lo : Nat) : ∀ k, mxD b c p lo k ≤ wstA b c p
  | 0 => Nat.zero_le _
  | k + 1 => by
    have h1 := mxD_is hv c p lo k
    have hB : 0 < b.base.toNat := by have := hv.hb; omega
    have h2 := (wstN_spec hB (allNs b) c p (allNs b).length (Nat.le_refl _)).1 (lo + k)
    simp only [mxD]
    unfold wstA at h1 ⊢
    omega

theorem mxD_wst {b : Bk} (hv : Val b) {c p lo hi : Nat} (hc : c ≤ b.cords.length) (hp : p < b.places.toNat) (h1 : (cordSp b c p).lo = lo) (h2 : (cordSp b c p).hi = hi) : mxD b c p lo (hi + 1 - lo) = wstA b c p := by
  have a := mxD_is hv c p lo (hi + 1 - lo)
  have hB : 0 < b.base.toNat := by have := hv.hb; omega
  rcases (wstN_spec hB (allNs b) c p (allNs b).length (Nat.le_refl _)).2 with h | ⟨d, hd, h⟩
  · unfold wstA at *; omega
  · by_cases h0 : wstN b (allNs b) c p (allNs b).length = 0
    · unfold wstA at *; omega
    · have hne : 0 < cntN b (allNs b) c p (allNs b).length d := by omega
      rw [cntN_all] at hne
      obtain ⟨l, hl⟩ := List.exists_mem_of_length_pos hne
      obtain ⟨hl1, hl2⟩ := List.mem_filter.1 hl
      have hl3 : dgN b l c p = d := by simpa using hl2
      have hin := dig_in hv hl1 hc hp
      rw [hl3, h1, h2] at hin
      have := mxD_ge b c p lo (hi + 1 - lo) (d - lo) (by omega)
      rw [show lo + (d - lo) = d by omega] at this
      unfold wstA at *
      omega

theorem c38 (b : Bk) (hc0 : checkB b = true) (c p : Nat) (hc : c ≤ b.cords.length) (hp : p < b.places.toNat) : Ctr Try.prog 38 [KB b, .int c, .int p] (.tup [.int (wstA b c p : Nat), .bool true]) := by
  refine ctr_of_wp hmix Try.func38 m38 rfl ?_
  unfold v38
  have hv := val_of_check hc0
  have hcl := hv.hc
  have hpp := hv.hp
  have hbb := hv.hb
  have hlen : (cordAt b c).length = b.places.toNat := by have := (cordAt_val hv hc).1; omega
  have hsp := (cordAt_val hv hc).2 _ (mem_getD (show p < (cordAt b c).length by omega))
  obtain ⟨sp, hspe⟩ : ∃ sp, (cordAt b c)[p]?.getD default = sp := ⟨_, rfl⟩
  have hcs : cordSp b c p = sp := hspe
  rw [hspe] at hsp
  obtain ⟨lo, hlo⟩ : ∃ lo : Nat, sp.lo = lo := ⟨sp.lo.toNat, by omega⟩
  obtain ⟨hi, hhi⟩ : ∃ hi : Nat, sp.hi = hi := ⟨sp.hi.toNat, by omega⟩
  have hw := mxD_wst hv hc hp (by rw [hcs, hlo]) (by rw [hcs, hhi])
  simp -failIfUnchanged (disch := first | omega | (simp [wcs_len] <;> omega) | fail) only [go_sem, simprocAttr]
  refine wcall (c32 b c hc) ?_
  simp -failIfUnchanged (disch := first | omega | (simp [wcs_len] <;> omega) | fail) only [go_sem, simprocAttr, hspe]
  rw [hlo, hhi]
  refine wp_loop' Nat (fun i => ⟨[(1, .int (c : Nat)), (2, .int (p : Nat)), (3, .ptr 3 0), (8, .ptr 8 0), (9, .int (mxD b c p lo i : Nat)), (10, .int (lo + i : Nat))],
    [(8, ⟨[.int (lo : Nat), .int (hi : Nat)], false⟩), (3, ⟨[.int b.base, .int b.places, .sl 1 (b.cords.map SS) .sh, SS b.top], false⟩)], [], none⟩)
    (fun i => lo + i ≤ hi + 1) (fun i => hi + 1 - lo - i) 0 (by omega) (by simp -failIfUnchanged (disch := first | omega | (simp [wcs_len] <;> omega) | fail) only [go_sem, simprocAttr]; try simp [mxD]) ?_
  intro i hi'
  have hi2 : lo + i ≤ hi + 1 := hi'
  clear hi'
  simp -failIfUnchanged (disch := first | omega | (simp [wcs_len] <;> omega) | fail) only [go_sem, simprocAttr]
  refine wcond_dec (fun h => ?_) (fun h => ?_)
  · have hle : lo + i ≤ hi := by omega
    have hin : (cordSp b c p).lo ≤ ((lo + i : Nat) : Int) ∧ ((lo + i : Nat) : Int) ≤ (cordSp b c p).hi := by rw [hcs]; omega
    have hm := one_with hv hc hp hin
    have hs' := small_with hv c p ⟨((lo + i : Nat) : Int), ((lo + i : Nat) : Int)⟩
    have hv' := val_with hv (p := p) (s := ⟨((lo + i : Nat) : Int), ((lo + i : Nat) : Int)⟩) hc ⟨by dsimp only; omega, by dsimp only; omega, by dsimp only; omega⟩
    have hc0' := check_of_val hv'
    have hle2 := cntN_le b (allNs b) c p (allNs b).length (lo + i)
    simp -failIfUnchanged (disch := first | omega | (simp [wcs_len] <;> omega) | fail) only [go_sem, simprocAttr]
    refine wcall (c33r b hv c p ⟨((lo + i : Nat) : Int), ((lo + i : Nat) : Int)⟩ hc hp) ?_
    simp -failIfUnchanged (disch := first | omega | (simp [wcs_len] <;> omega) | fail) only [go_sem, simprocAttr]
    refine wcall (c34k _ hs' hc0') ?_
    rw [hm]
    have e2 : decide (((cntN b (allNs b) c p (allNs b).length (lo + i) : Nat) : Int) < 0) = false := by simp
    simp -failIfUnchanged (disch := first | omega | (simp [wcs_len] <;> omega) | fail) only [go_sem, simprocAttr, e2]
    refine ⟨i + 1, by dsimp only; omega, by dsimp only; omega, ?_⟩
    simp -failIfUnchanged (disch := first | omega | (simp [wcs_len] <;> omega) | fail) only [go_sem, simprocAttr]
    simp [mxD]
    omega
  · simp -failIfUnchanged (disch := first | omega | (simp [wcs_len] <;> omega) | fail) only [go_sem, simprocAttr]
    have : i = hi + 1 - lo := by omega
    rw [this, hw]

theorem c7 (b : Bk) (h1 : b.cords.length < 9223372036854775808) (n c p : Int) : Ctr Try.prog 7 [KB b, .agg [.int n, .int c, .int p]] (.bool true) := by
  refine ctr_of_wp hmix Try.func7 m7 rfl ?_
  unfold v7
  simp -failIfUnchanged (disch := first | omega | (simp [wcs_len] <;> omega) | fail) only [go_sem, simprocAttr]
  refine wcall (c28 b h1) ?_
  cases hrd : (!hugeB b && checkB b) with
  | false =>
    simp -failIfUnchanged (disch := first | omega | (simp [wcs_len] <;> omega) | fail) only [go_sem, simprocAttr]
    refine wcall c17 ?_
    simp -failIfUnchanged (disch := first | omega | (simp [wcs_len] <;> omega) | fail) only [go_sem, simprocAttr]
  | true =>
    simp only [Bool.and_eq_true, Bool.not_eq_true'] at hrd
    obtain ⟨hh, hc0⟩ := hrd
    have hs := small_small hh
    have hv := val_of_check hc0
    have hcl := hv.hc
    simp -failIfUnchanged (disch := first | omega | (simp [wcs_len] <;> omega) | fail) only [go_sem, simprocAttr]
    refine WGd_bool (fun h3 => ?_) (fun h3 => ?_)
    · simp -failIfUnchanged (disch := first | omega | (simp [wcs_len] <;> omega) | fail) only [go_sem, simprocAttr, h3]
      refine WGd_bool (fun h3b => ?_) (fun h3b => ?_)
      · simp -failIfUnchanged (disch := first | omega | (simp [wcs_len] <;> omega) | fail) only [go_sem, simprocAttr, h3b]
        refine wcall (c29 b c) ?_
        cases h4 : within c 0 b.cords.length with
        | false =>
          simp -failIfUnchanged (disch := first | omega | (simp [wcs_len] <;> omega) | fail) only [go_sem, simprocAttr]
          refine wcall c17 ?_
          simp -failIfUnchanged (disch := first | omega | (simp [wcs_len] <;> omega) | fail) only [go_sem, simprocAttr]
        | true =>
          simp -failIfUnchanged (disch := first | omega | (simp [wcs_len] <;> omega) | fail) only [go_sem, simprocAttr]
          refine wcall (c30 b p) ?_
          cases h5 : within p 0 (w64 (b.places - 1)) with
          | false =>
            simp -failIfUnchanged (disch := first | omega | (simp [wcs_len] <;> omega) | fail) only [go_sem, simprocAttr]
            refine wcall c17 ?_
            simp -failIfUnchanged (disch := first | omega | (simp [wcs_len] <;> omega) | fail) only [go_sem, simprocAttr]
          | true =>
            have hpp := hv.hp
            have hbb := hv.hb
            obtain ⟨cn, rfl, hcn⟩ : ∃ cn : Nat, c = cn ∧ cn ≤ b.cords.length := ⟨c.toNat, by simp [within] at h4; omega, by simp [within] at h4; omega⟩
            obtain ⟨pn, rfl, hpn⟩ : ∃ pn : Nat, p = pn ∧ pn < b.places.toNat := ⟨p.toNat, by simp [within] at h5; omega, by rw [w64_id (by omega)] at h5; simp [within] at h5; omega⟩
            have hask := c19r b hs
            unfold askR at hask
            rw [hc0, if_pos rfl] at hask
            simp -failIfUnchanged (disch := first | omega | (simp [wcs_len] <;> omega) | fail) only [go_sem, simprocAttr]
            refine wcall hask ?_
            by_cases hl2 : (allNs b).length < 2
            · have e1 : decide (1 < ((allNs b).length : Int)) = false := by simp; omega
              rw [if_pos hl2]
              simp -failIfUnchanged (disch := first | omega | (simp [wcs_len] <;> omega) | fail) only [go_sem, simprocAttr]
              refine wcall (c34k b hs hc0) ?_
              simp -failIfUnchanged (disch := first | omega | (simp [wcs_len] <;> omega) | fail) only [go_sem, simprocAttr]
              refine wcall (c36 3) ?_
              simp -failIfUnchanged (disch := first | omega | (simp [wcs_len] <;> omega) | fail) only [go_sem, simprocAttr, e1]
              refine wcall c17 ?_
              simp -failIfUnchanged (disch := first | omega | (simp [wcs_len] <;> omega) | fail) only [go_sem, simprocAttr]
            · have e1 : decide (1 < ((allNs b).length : Int)) = true := by simp; omega
              rw [if_neg hl2]
              have hsp := ask_spec hv
              generalize aAll b (allNs b) (b.cords.length + 1) = s at hsp hask ⊢
              obtain ⟨⟨w1, ⟨w2, w3⟩, w4, w5⟩, hle⟩ := hsp
              obtain ⟨sc, sp, sw⟩ := s
              dsimp only at w1 w2 w3 w4 w5 hle hask ⊢
              obtain ⟨C, rfl⟩ : ∃ C : Nat, sc = C := ⟨sc.toNat, by omega⟩
              obtain ⟨P, rfl⟩ : ∃ P : Nat, sp = P := ⟨sp.toNat, by omega⟩
              simp only [Int.toNat_natCast] at w1 w2 w3
              have hq1 : within (C : Int) 0 b.cords.length = true := by simp [within]; omega
              have hq2 : within (P : Int) 0 (w64 (b.places - 1)) = true := by rw [w64_id (by omega)]; simp [within]; omega
              obtain ⟨c2, p2, g1, g2, g3⟩ := wst_parts hv (show 2 ≤ (allNs b).length by omega)
              have g4 := (hle c2 p2 ⟨by omega, g2⟩).1
              have g5 := wst_pos hv (show 1 ≤ (allNs b).length by omega) (c := C) (p := P)
              obtain ⟨g6, g7⟩ := hle cn pn ⟨by omega, hpn⟩
              have e2 : decide (((allNs b).length : Int) ≤ (wstA b C P : Nat)) = false := by simp; omega
              have e3 : decide (((wstA b C P : Nat) : Int) < 1) = false := by simp; omega
              have e4 : decide (((wstA b cn pn : Nat) : Int) < (wstA b C P : Nat)) = false := by simp; omega
              simp -failIfUnchanged (disch := first | omega | (simp [wcs_len] <;> omega) | fail) only [go_sem, simprocAttr]
              refine wcall (c34k b hs hc0) ?_
              simp -failIfUnchanged (disch := first | omega | (simp [wcs_len] <;> omega) | fail) only [go_sem, simprocAttr]
              refine wcall (c36 0) ?_
              simp -failIfUnchanged (disch := first | omega | (simp [wcs_len] <;> omega) | fail) only [go_sem, simprocAttr, e1]
              refine wcall (c29 b C) ?_
              simp -failIfUnchanged (disch := first | omega | (simp [wcs_len] <;> omega) | fail) only [go_sem, simprocAttr, hq1]
              refine wcall (c30 b P) ?_
              have hq3 : within (P : Int) 0 (b.places - 1) = true := by simp [within]; omega
              simp -failIfUnchanged (disch := first | omega | (simp [wcs_len] <;> omega) | fail) only [go_sem, simprocAttr, hq2, hq3]
              refine wcall (c38 b hc0 C P (Nat.le_of_lt_succ w2) w3) ?_
              simp -failIfUnchanged (disch := first | omega | (simp [wcs_len] <;> omega) | fail) only [go_sem, simprocAttr]
              refine wcall (c38 b hc0 cn pn hcn hpn) ?_
              simp -failIfUnchanged (disch := first | omega | (simp [wcs_len] <;> omega) | fail) only [go_sem, simprocAttr, e2, e3, e4]
              refine WGd_bool (fun h6 => ?_) (fun h6 => ?_)
              · simp -failIfUnchanged (disch := first | omega | (simp [wcs_len] <;> omega) | fail) only [go_sem, simprocAttr, h6]
                have h6' : ¬ (wstA b C P < wstA b cn pn) := by simpa using h6
                have h7 := g7 (by omega)
                refine WGd_bool (fun h8 => ?_) (fun h8 => ?_)
                · have h8' : ¬ (C < cn) := by simpa using h8
                  have e5 : decide ((C : Int) = cn) = true := by simp; omega
                  have e6 : decide ((P : Int) ≤ pn) = true := by simp; omega
                  simp -failIfUnchanged (disch := first | omega | (simp [wcs_len] <;> omega) | fail) only [go_sem, simprocAttr, h8, e5, e6]
                  refine wcall c17 ?_
                  simp -failIfUnchanged (disch := first | omega | (simp [wcs_len] <;> omega) | fail) only [go_sem, simprocAttr]
                · simp -failIfUnchanged (disch := first | omega | (simp [wcs_len] <;> omega) | fail) only [go_sem, simprocAttr, h8]
                  refine wcall c17 ?_
                  simp -failIfUnchanged (disch := first | omega | (simp [wcs_len] <;> omega) | fail) only [go_sem, simprocAttr]
              · simp -failIfUnchanged (disch := first | omega | (simp [wcs_len] <;> omega) | fail) only [go_sem, simprocAttr, h6]
                refine wcall c17 ?_
                simp -failIfUnchanged (disch := first | omega | (simp [wcs_len] <;> omega) | fail) only [go_sem, simprocAttr]
      · simp -failIfUnchanged (disch := first | omega | (simp [wcs_len] <;> omega) | fail) only [go_sem, simprocAttr, h3b]
        refine wcall c17 ?_
        simp -failIfUnchanged (disch := first | omega | (simp [wcs_len] <;> omega) | fail) only [go_sem, simprocAttr]
    · simp -failIfUnchanged (disch := first | omega | (simp [wcs_len] <;> omega) | fail) only [go_sem, simprocAttr, h3]
      refine wcall c17 ?_
      simp -failIfUnchanged (disch := first | omega | (simp [wcs_len] <;> omega) | fail) only [go_sem, simprocAttr]

end Go.Proofs.Ytkkiipjfbebipaa

/- KnotsDigits. -/
set_option linter.unusedSimpArgs false
set_option linter.unusedVariables false
set_option linter.unnecessarySimpa false
namespace Go.Proofs.Ytkkiipjfbebipaa
open Go Go.V

/-- The sum of the counts, and the least and the greatest digit that some reading has. -/
def msD (b : Bk) (c p lo k : Nat) : Nat := sumF (List.range k) fun i => cntN b (allNs b) c p (allNs b).length (lo + i)

def dF (b : Bk) (c p lo : Nat) : Nat → Int × Int
  | 0 => (-1, 0)
  | k + 1 =>
    let r := dF b c p lo k
    if 0 < cntN b (allNs b) c p (allNs b).length (lo + k) then (if r.1 < 0 then ((lo + k : Nat) : Int) else r.1, ((lo + k : Nat) : Int)) else r

theorem dF_spec (b : Bk) (c p lo : Nat) : ∀ k,
    ((dF b c p lo k).1 = -1 ∧ ∀ i, i < k → cntN b (allNs b) c p (allNs b).length (lo + i) = 0) ∨
    ((∃ i, i < k ∧ 0 < cntN b (allNs b) c p (allNs b).length (lo + i) ∧ (dF b c p lo k).1 = (lo + i : Nat)) ∧ (∃ i, i < k ∧ 0 < cntN b (allNs b) c p (allNs b).length (lo + i) ∧ (dF b c p lo k).2 = (lo + i : Nat)) ∧
      ∀ i, i < k → 0 < cntN b (allNs b) c p (allNs b).length (lo + i) → (dF b c p lo k).1 ≤ (lo + i : Nat) ∧ ((lo + i : Nat) : Int) ≤ (dF b c p lo k).2)
  | 0 => .inl ⟨rfl, fun i hi => by omega⟩
  | k + 1 => by
    have ih := dF_spec b c p lo k
    unfold dF
    dsimp only
    generalize dF b c p lo k = r at ih
    by_cases h : 0 < cntN b (allNs b) c p (allNs b).length (lo + k)
    · rw [if_pos h]
      right
      rcases ih with ⟨h1, h2⟩ | ⟨⟨i, hi, g1, g2⟩, ⟨j, hj, g3, g4⟩, g5⟩
      · rw [if_pos (by omega)]
        refine ⟨⟨k, by omega, h, rfl⟩, ⟨k, by omega, h, rfl⟩, fun i hi hp => ?_⟩
        have : i = k := by
          apply Classical.byContradiction
          intro hne
          have := h2 i (by omega)
          omega
        subst this
        exact ⟨Int.le_refl _, Int.le_refl _⟩
      · rw [if_neg (by omega)]
        refine ⟨⟨i, by omega, g1, g2⟩, ⟨k, by omega, h, rfl⟩, fun m hm hp => ?_⟩
        dsimp only
        rcases Nat.lt_or_ge m k with h1 | h1
        · have := g5 m h1 hp
          omega
        · have := g5 i hi g1
          omega
    · rw [if_neg h]
      rcases ih with ⟨h1, h2⟩ | ⟨⟨i, hi, g1, g2⟩, ⟨j, hj, g3, g4⟩, g5⟩
      · refine .inl ⟨h1, fun i hi => ?_⟩
        rcases Nat.lt_or_ge i k with h3 | h3
        · exact h2 i h3
        · have : i = k := by omega
          subst this
          omega
      · refine .inr ⟨⟨i, by omega, g1, g2⟩, ⟨j, by omega, g3, g4⟩, fun m hm hp => ?_⟩
        rcases Nat.lt_or_ge m k with h3 | h3
        · exact g5 m h3 hp
        · have : m = k := by omega
          subst this
          omega

theorem cnt_pos_iff (b : Bk) (c p d : Nat) : 0 < cntN b (allNs b) c p (allNs b).length d ↔ ∃ l ∈ allNs b, dgN b l c p = d := by
  rw [cntN_all]
  constructor
  · intro h
    obtain ⟨l, hl⟩ := List.exists_mem_of_length_pos h
    obtain ⟨h1, h2⟩ := List.mem_filter.1 hl
    exact ⟨l, h1, by simpa using h2⟩
  · rintro ⟨l, h1, h2⟩
    exact List.length_pos_of_mem (List.mem_filter.2 ⟨h1, by simpa using h2⟩)

theorem msD_mono (b : Bk) (c p lo k n : Nat) (h : k ≤ n) : msD b c p lo k ≤ msD b c p lo n := by
  obtain ⟨m, rfl⟩ : ∃ m, n = k + m := ⟨n - k, by omega⟩
  unfold msD
  rw [sumF_range_add]
  omega

theorem msD_succ (b : Bk) (c p lo k : Nat) : msD b c p lo (k + 1) = msD b c p lo k + cntN b (allNs b) c p (allNs b).length (lo + k) := by
  unfold msD
  rw [sumF_range_succ]

theorem msD_all {b : Bk} (hv : Val b) {c p lo hi : Nat} (hc : c ≤ b.cords.length) (hp : p < b.places.toNat) (h1 : (cordSp b c p).lo = lo) (h2 : (cordSp b c p).hi = hi) : msD b c p lo (hi + 1 - lo) = (allNs b).length := by
  unfold msD
  refine cnt_sum (allNs b) c p lo _ fun l hl => ?_
  have := dig_in hv hl hc hp
  omega

theorem dF_clus {b : Bk} (hv : Val b) {c p lo hi : Nat} (hc : c ≤ b.cords.length) (hp : p < b.places.toNat) (h1 : (cordSp b c p).lo = lo) (h2 : (cordSp b c p).hi = hi) (hne : 0 < (allNs b).length) :
    spanL (digS b c p (allNs b).length) (allNs b).length = ⟨(dF b c p lo (hi + 1 - lo)).1, (dF b c p lo (hi + 1 - lo)).2⟩ := by
  have hdig : digS b c p (allNs b).length = (allNs b).map fun l => ((dgN b l c p : Nat) : Int) := by
    unfold digS
    rw [List.take_length]
    refine List.map_congr_left fun l hl => ?_
    rw [tieN_at _ _ _ _ hp]
    rfl
  have hl0 : (allNs b)[0] ∈ allNs b := List.getElem_mem _
  have hd0 := dig_in hv hl0 hc hp
  have key : ∀ l ∈ allNs b, ∃ i, i < hi + 1 - lo ∧ dgN b l c p = lo + i := fun l hl => by
    have := dig_in hv hl hc hp
    exact ⟨dgN b l c p - lo, by omega, by omega⟩
  rcases dF_spec b c p lo (hi + 1 - lo) with ⟨_, h⟩ | ⟨⟨i, hi', g1, g2⟩, ⟨j, hj, g3, g4⟩, g5⟩
  · obtain ⟨i, hi1, hi2⟩ := key _ hl0
    have a := h i hi1
    have c := (cnt_pos_iff b c p (lo + i)).2 ⟨_, hl0, hi2⟩
    omega
  · have hlen : (allNs b).length = (digS b c p (allNs b).length).length := by rw [hdig, List.length_map]
    obtain ⟨l1, hl1, e1⟩ := (cnt_pos_iff b c p (lo + i)).1 g1
    obtain ⟨l2, hl2, e2⟩ := (cnt_pos_iff b c p (lo + j)).1 g3
    rw [show spanL (digS b c p (allNs b).length) (allNs b).length = spanL (digS b c p (allNs b).length) (digS b c p (allNs b).length).length by rw [← hlen]]
    refine spanL_uniq ?_ ?_ ?_
    · rw [hdig, g2]
      exact List.mem_map.2 ⟨l1, hl1, by rw [e1]⟩
    · rw [hdig, g4]
      exact List.mem_map.2 ⟨l2, hl2, by rw [e2]⟩
    · intro x hx
      rw [hdig] at hx
      obtain ⟨l, hl, rfl⟩ := List.mem_map.1 hx
      obtain ⟨k, hk, e⟩ := key l hl
      rw [e]
      exact g5 k hk ((cnt_pos_iff b c p (lo + k)).2 ⟨l, hl, e⟩)

theorem flat_len_le {α β : Type} (l : List α) (f : α → List β) (K : Nat) (h : ∀ x ∈ l, (f x).length ≤ K) : (l.flatMap f).length ≤ l.length * K := by
  induction l with
  | nil => simp
  | cons a r ih =>
    rw [List.flatMap_cons, List.length_append, List.length_cons, Nat.succ_mul]
    have h1 := h a (by simp)
    have h2 := ih fun x hx => h x (by simp [hx])
    omega

theorem sums_cnt (b : Bk) (f : Bool) : ∀ (k : Nat) (first : List Nat), (sumsN b f k first).length ≤ allN b ^ k
  | 0, first => by
    unfold sumsN
    split <;> simp
  | k + 1, first => by
    unfold sumsN
    have h1 := flat_len_le ((List.range (allN b)).filter (isN b first.length f)) (fun n => sumsN b f k (first ++ [n])) (allN b ^ k) fun n _ => sums_cnt b f k (first ++ [n])
    have h2 : ((List.range (allN b)).filter (isN b first.length f)).length ≤ allN b := by
      have := List.length_filter_le (isN b first.length f) (List.range (allN b))
      simpa using this
    rw [Nat.pow_succ]
    have h3 := Nat.mul_le_mul_right (allN b ^ k) h2
    rw [Nat.mul_comm (allN b ^ k)]
    omega

theorem allNs_few {b : Bk} (hv : Val b) : (allNs b).length ≤ 10000000000000000 := by
  have h1 := sums_cnt b false b.cords.length []
  have h2 := allN_le hv
  have h3 := hv.hc
  have h4 : allN b ^ b.cords.length ≤ 10000 ^ b.cords.length := Nat.pow_le_pow_left h2 _
  have h5 : 10000 ^ b.cords.length ≤ 10000 ^ 4 := Nat.pow_le_pow_right (by omega) h3
  have h6 : 10000 ^ 4 = 10000000000000000 := by decide
  unfold allNs
  omega

theorem c8 (b : Bk) (h1 : b.cords.length < 9223372036854775808) (n c p : Int) : Ctr Try.prog 8 [KB b, .agg [.int n, .int c, .int p]] (.bool true) := by
  refine ctr_of_wp hmix Try.func8 m8 rfl ?_
  unfold v8
  simp -failIfUnchanged (disch := first | omega | (simp [wcs_len] <;> omega) | fail) only [go_sem, simprocAttr]
  refine wcall (c28 b h1) ?_
  cases hrd : (!hugeB b && checkB b) with
  | false =>
    simp -failIfUnchanged (disch := first | omega | (simp [wcs_len] <;> omega) | fail) only [go_sem, simprocAttr]
    refine wcall c17 ?_
    simp -failIfUnchanged (disch := first | omega | (simp [wcs_len] <;> omega) | fail) only [go_sem, simprocAttr]
  | true =>
    simp only [Bool.and_eq_true, Bool.not_eq_true'] at hrd
    obtain ⟨hh, hc0⟩ := hrd
    have hs := small_small hh
    have hv := val_of_check hc0
    have hcl := hv.hc
    simp -failIfUnchanged (disch := first | omega | (simp [wcs_len] <;> omega) | fail) only [go_sem, simprocAttr]
    refine WGd_bool (fun h3 => ?_) (fun h3 => ?_)
    · simp -failIfUnchanged (disch := first | omega | (simp [wcs_len] <;> omega) | fail) only [go_sem, simprocAttr, h3]
      refine WGd_bool (fun h3b => ?_) (fun h3b => ?_)
      · simp -failIfUnchanged (disch := first | omega | (simp [wcs_len] <;> omega) | fail) only [go_sem, simprocAttr, h3b]
        refine wcall (c29 b c) ?_
        cases h4 : within c 0 b.cords.length with
        | false =>
          simp -failIfUnchanged (disch := first | omega | (simp [wcs_len] <;> omega) | fail) only [go_sem, simprocAttr]
          refine wcall c17 ?_
          simp -failIfUnchanged (disch := first | omega | (simp [wcs_len] <;> omega) | fail) only [go_sem, simprocAttr]
        | true =>
          simp -failIfUnchanged (disch := first | omega | (simp [wcs_len] <;> omega) | fail) only [go_sem, simprocAttr]
          refine wcall (c30 b p) ?_
          cases h5 : within p 0 (w64 (b.places - 1)) with
          | false =>
            simp -failIfUnchanged (disch := first | omega | (simp [wcs_len] <;> omega) | fail) only [go_sem, simprocAttr]
            refine wcall c17 ?_
            simp -failIfUnchanged (disch := first | omega | (simp [wcs_len] <;> omega) | fail) only [go_sem, simprocAttr]
          | true =>
            have hpp := hv.hp
            have hbb := hv.hb
            obtain ⟨cn, rfl, hcn⟩ : ∃ cn : Nat, c = cn ∧ cn ≤ b.cords.length := ⟨c.toNat, by simp [within] at h4; omega, by simp [within] at h4; omega⟩
            obtain ⟨pn, rfl, hpn⟩ : ∃ pn : Nat, p = pn ∧ pn < b.places.toNat := ⟨p.toNat, by simp [within] at h5; omega, by rw [w64_id (by omega)] at h5; simp [within] at h5; omega⟩
            have hlen : (cordAt b cn).length = b.places.toNat := by have := (cordAt_val hv hcn).1; omega
            have hsp := (cordAt_val hv hcn).2 _ (mem_getD (show pn < (cordAt b cn).length by omega))
            obtain ⟨sp, hspe⟩ : ∃ sp, (cordAt b cn)[pn]?.getD default = sp := ⟨_, rfl⟩
            have hcs : cordSp b cn pn = sp := hspe
            rw [hspe] at hsp
            obtain ⟨lo, hlo⟩ : ∃ lo : Nat, sp.lo = lo := ⟨sp.lo.toNat, by omega⟩
            obtain ⟨hi, hhi⟩ : ∃ hi : Nat, sp.hi = hi := ⟨sp.hi.toNat, by omega⟩
            have hma := msD_all hv hcn hpn (by rw [hcs, hlo]) (by rw [hcs, hhi])
            -- what Cluster says
            have hclu : ∃ (u : Sp) (f : Int), (clusR b cn pn).1 = u ∧ (clusR b cn pn).2 = f ∧ (decide (f = 0) || decide (f = 3)) = true ∧ (decide (0 < ((allNs b).length : Int)) == decide (f = 0)) = true ∧
                (f = 0 → u = ⟨(dF b cn pn lo (hi + 1 - lo)).1, (dF b cn pn lo (hi + 1 - lo)).2⟩) := by
              refine ⟨_, _, rfl, rfl, ?_⟩
              unfold clusR ansS
              rw [hc0, h4, h5, if_pos rfl, Bool.and_self, if_pos rfl, Int.toNat_natCast, Int.toNat_natCast]
              by_cases h0 : (allNs b).length = 0
              · rw [if_pos h0]
                refine ⟨by decide, by simp [h0], fun h => by simp at h⟩
              · rw [if_neg h0]
                refine ⟨rfl, by simp; omega, fun _ => dF_clus hv hcn hpn (by rw [hcs, hlo]) (by rw [hcs, hhi]) (by omega)⟩
            obtain ⟨u, f, hu, hf, hf1, hf2, hf3⟩ := hclu
            have hclc := c39r b hs cn pn
            rw [hu, hf] at hclc
            have e1 : decide (((allNs b).length : Int) < 0) = false := by simp
            have hfew := allNs_few hv
            simp -failIfUnchanged (disch := first | omega | (simp [wcs_len] <;> omega) | fail) only [go_sem, simprocAttr]
            refine wcall (c34k b hs hc0) ?_
            simp -failIfUnchanged (disch := first | omega | (simp [wcs_len] <;> omega) | fail) only [go_sem, simprocAttr]
            refine wcall hclc ?_
            simp -failIfUnchanged (disch := first | omega | (simp [wcs_len] <;> omega) | fail) only [go_sem, simprocAttr]
            refine wcall (c36 f) ?_
            simp -failIfUnchanged (disch := first | omega | (simp [wcs_len] <;> omega) | fail) only [go_sem, simprocAttr, hf1, e1, hf2]
            refine wcall (c32 b cn hcn) ?_
            simp -failIfUnchanged (disch := first | omega | (simp [wcs_len] <;> omega) | fail) only [go_sem, simprocAttr, hspe]
            rw [hlo, hhi]
            refine wp_loop' Nat (fun i => ⟨[(2, .ptr 2 0), (3, .ptr 3 0), (5, .int (((allNs b).length : Int) - (msD b cn pn lo i : Nat))), (7, .ptr 7 0), (8, .int f), (9, .ptr 9 0), (10, .ptr 10 0), (11, .int (lo + i : Nat))],
              [(10, ⟨[.int (dF b cn pn lo i).1, .int (dF b cn pn lo i).2], false⟩), (9, ⟨[.int (lo : Nat), .int (hi : Nat)], false⟩), (7, ⟨[.int u.lo, .int u.hi], false⟩), (3, ⟨[.int n, .int (cn : Nat), .int (pn : Nat)], false⟩), (2, ⟨[.int b.base, .int b.places, .sl 1 (b.cords.map SS) .sh, SS b.top], false⟩)], [], none⟩)
              (fun i => lo + i ≤ hi + 1) (fun i => hi + 1 - lo - i) 0 (by omega) (by simp -failIfUnchanged (disch := first | omega | (simp [wcs_len] <;> omega) | fail) only [go_sem, simprocAttr]; try simp [dF, msD, sumF_nil]) ?_
            intro i hi'
            have hi2 : lo + i ≤ hi + 1 := hi'
            clear hi'
            simp -failIfUnchanged (disch := first | omega | (simp [wcs_len] <;> omega) | fail) only [go_sem, simprocAttr]
            refine wcond_dec (fun h => ?_) (fun h => ?_)
            · have hle : lo + i ≤ hi := by omega
              have hin : (cordSp b cn pn).lo ≤ ((lo + i : Nat) : Int) ∧ ((lo + i : Nat) : Int) ≤ (cordSp b cn pn).hi := by rw [hcs]; omega
              have hm := one_with hv hcn hpn hin
              have hs' := small_with hv cn pn ⟨((lo + i : Nat) : Int), ((lo + i : Nat) : Int)⟩
              have hv' := val_with hv (p := pn) (s := ⟨((lo + i : Nat) : Int), ((lo + i : Nat) : Int)⟩) hcn ⟨by dsimp only; omega, by dsimp only; omega, by dsimp only; omega⟩
              have hc0' := check_of_val hv'
              have hms := msD_mono b cn pn lo (i + 1) (hi + 1 - lo) (by omega)
              rw [msD_succ, hma] at hms
              have hms2 := msD_succ b cn pn lo i
              have hdf : dF b cn pn lo (i + 1) = if 0 < cntN b (allNs b) cn pn (allNs b).length (lo + i) then (if (dF b cn pn lo i).1 < 0 then ((lo + i : Nat) : Int) else (dF b cn pn lo i).1, ((lo + i : Nat) : Int)) else dF b cn pn lo i := rfl
              have c33' := c33r b hv cn pn ⟨((lo + i : Nat) : Int), ((lo + i : Nat) : Int)⟩ hcn hpn
              have c34' := c34k _ hs' hc0'
              rw [hm] at c34'
              generalize withB b cn pn ⟨((lo + i : Nat) : Int), ((lo + i : Nat) : Int)⟩ = b' at *
              generalize cntN b (allNs b) cn pn (allNs b).length (lo + i) = W at *
              generalize msD b cn pn lo i = M at *
              generalize dF b cn pn lo i = D at *
              have e2 : decide (((W : Nat) : Int) < 0) = false := by simp
              have e3 : decide (((allNs b).length : Int) - (M : Nat) < (W : Nat)) = false := by simp; omega
              simp -failIfUnchanged (disch := first | omega | (simp [wcs_len] <;> omega) | fail) only [go_sem, simprocAttr]
              refine wcall c33' ?_
              simp -failIfUnchanged (disch := first | omega | (simp [wcs_len] <;> omega) | fail) only [go_sem, simprocAttr]
              refine wcall c34' ?_
              have e10 : w64 (((allNs b).length : Int) - (M : Nat) - (W : Nat)) = ((allNs b).length : Int) - (M : Nat) - (W : Nat) := w64_id (by omega)
              simp -failIfUnchanged (disch := first | omega | (simp [wcs_len] <;> omega) | fail) only [go_sem, simprocAttr, e2, e3, e10]
              by_cases hW : 0 < W
              · have e4 : decide (0 < (W : Int)) = true := by simp; omega
                by_cases hD : D.1 < 0
                · have e5 : decide (D.1 < 0) = true := by simp; omega
                  rw [if_pos hW, if_pos hD] at hdf
                  simp -failIfUnchanged (disch := first | omega | (simp [wcs_len] <;> omega) | fail) only [go_sem, simprocAttr, e4, e5]
                  refine ⟨i + 1, by dsimp only; omega, by dsimp only; omega, ?_⟩
                  dsimp only
                  rw [hdf, hms2]
                  simp -failIfUnchanged (disch := first | omega | (simp [wcs_len] <;> omega) | fail) only [go_sem, simprocAttr]
                  simp
                  omega
                · have e5 : decide (D.1 < 0) = false := by simp; omega
                  rw [if_pos hW, if_neg hD] at hdf
                  simp -failIfUnchanged (disch := first | omega | (simp [wcs_len] <;> omega) | fail) only [go_sem, simprocAttr, e4, e5]
                  refine ⟨i + 1, by dsimp only; omega, by dsimp only; omega, ?_⟩
                  dsimp only
                  rw [hdf, hms2]
                  simp -failIfUnchanged (disch := first | omega | (simp [wcs_len] <;> omega) | fail) only [go_sem, simprocAttr]
                  simp
                  omega
              · have e4 : decide (0 < (W : Int)) = false := by simp; omega
                rw [if_neg hW] at hdf
                simp -failIfUnchanged (disch := first | omega | (simp [wcs_len] <;> omega) | fail) only [go_sem, simprocAttr, e4]
                refine ⟨i + 1, by dsimp only; omega, by dsimp only; omega, ?_⟩
                dsimp only
                rw [hdf, hms2]
                simp -failIfUnchanged (disch := first | omega | (simp [wcs_len] <;> omega) | fail) only [go_sem, simprocAttr]
                simp
                omega
            · have hie : i = hi + 1 - lo := by omega
              have e6 : decide ((((allNs b).length : Int) - (msD b cn pn lo i : Nat)) = 0) = true := by rw [hie, hma]; simp
              simp -failIfUnchanged (disch := first | omega | (simp [wcs_len] <;> omega) | fail) only [go_sem, simprocAttr, e6]
              by_cases h0 : f = 0
              · have e7 : decide (¬ f = 0) = false := by simp [h0]
                have hue := hf3 h0
                rw [← hie] at hue
                have e8 : u.lo = (dF b cn pn lo i).1 := by rw [hue]
                have e9 : u.hi = (dF b cn pn lo i).2 := by rw [hue]
                simp -failIfUnchanged (disch := first | omega | (simp [wcs_len] <;> omega) | fail) only [go_sem, simprocAttr, e7, e8, e9]
                refine wcall c17 ?_
                simp -failIfUnchanged (disch := first | omega | (simp [wcs_len] <;> omega) | fail) only [go_sem, simprocAttr]
              · have e7 : decide (¬ f = 0) = true := by simp [h0]
                simp -failIfUnchanged (disch := first | omega | (simp [wcs_len] <;> omega) | fail) only [go_sem, simprocAttr, e7]
                refine wcall c17 ?_
                simp -failIfUnchanged (disch := first | omega | (simp [wcs_len] <;> omega) | fail) only [go_sem, simprocAttr]
      · simp -failIfUnchanged (disch := first | omega | (simp [wcs_len] <;> omega) | fail) only [go_sem, simprocAttr, h3b]
        refine wcall c17 ?_
        simp -failIfUnchanged (disch := first | omega | (simp [wcs_len] <;> omega) | fail) only [go_sem, simprocAttr]
    · simp -failIfUnchanged (disch := first | omega | (simp [wcs_len] <;> omega) | fail) only [go_sem, simprocAttr, h3]
      refine wcall c17 ?_
      simp -failIfUnchanged (disch := first | omega | (simp [wcs_len] <;> omega) | fail) only [go_sem, simprocAttr]

end Go.Proofs.Ytkkiipjfbebipaa
