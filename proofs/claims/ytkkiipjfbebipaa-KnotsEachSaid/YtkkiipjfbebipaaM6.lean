/- Merged by program: T32, T33, T34, T34b, T35, T36, T37, T38, T39, T40, T41, T47, T48, T49, T50, T51a, T55. -/
import Derived.Test.YtkkiipjfbebipaaM5
import Derived.Test.YtkkiipjfbebipaaChecked
/- Plain law 5: what a loom reckons is what the lists of numbers say. -/
set_option linter.unusedSimpArgs false
set_option linter.unusedVariables false
set_option linter.unnecessarySimpa false
namespace Go.Proofs.Ytkkiipjfbebipaa
open Go Go.V

/-! ### sums of whole numbers -/
def isum (n : Nat) (f : Nat → Int) : Int := (List.range n).foldl (fun a i => a + f i) 0

theorem isum_zero (f : Nat → Int) : isum 0 f = 0 := rfl
theorem isum_succ (n : Nat) (f : Nat → Int) : isum (n + 1) f = isum n f + f n := by
  unfold isum
  rw [List.range_succ, List.foldl_append]
  rfl
theorem isum_congr {n : Nat} {f g : Nat → Int} (h : ∀ i, i < n → f i = g i) : isum n f = isum n g := by
  induction n with
  | zero => rfl
  | succ n ih => rw [isum_succ, isum_succ, ih fun i hi => h i (by omega), h n (by omega)]
theorem isum_add (n : Nat) (f g : Nat → Int) : (isum n fun i => f i + g i) = isum n f + isum n g := by
  induction n with
  | zero => rfl
  | succ n ih => rw [isum_succ, isum_succ, isum_succ, ih]; omega
theorem isum_const0 (n : Nat) : (isum n fun _ => 0) = 0 := by
  induction n with
  | zero => rfl
  | succ n ih => rw [isum_succ, ih]; rfl
theorem isum_comm (n m : Nat) (f : Nat → Nat → Int) : (isum n fun i => isum m (f i)) = isum m fun j => isum n fun i => f i j := by
  induction n with
  | zero =>
    have : (isum m fun j => isum 0 fun i => f i j) = isum m fun _ => 0 := isum_congr fun j _ => rfl
    rw [this, isum_const0]; rfl
  | succ n ih =>
    rw [isum_succ, ih, ← isum_add]
    exact isum_congr fun j _ => by rw [isum_succ]
theorem isum_nonneg {n : Nat} {f : Nat → Int} (h : ∀ i, i < n → 0 ≤ f i) : 0 ≤ isum n f := by
  induction n with
  | zero => exact Int.le_refl _
  | succ n ih =>
    rw [isum_succ]
    have := ih fun i hi => h i (by omega)
    have := h n (by omega)
    omega
theorem isum_eq0 {n : Nat} {f : Nat → Int} (h : ∀ i, i < n → 0 ≤ f i) : isum n f = 0 ↔ ∀ i, i < n → f i = 0 := by
  induction n with
  | zero => exact ⟨fun _ i hi => by omega, fun _ => rfl⟩
  | succ n ih =>
    rw [isum_succ]
    have h1 := isum_nonneg (n := n) (f := f) fun i hi => h i (by omega)
    have h2 := h n (by omega)
    have ih := ih fun i hi => h i (by omega)
    constructor
    · intro e i hi
      rcases Nat.lt_or_ge i n with hl | hl
      · exact ih.1 (by omega) i hl
      · have : i = n := by omega
        subst this
        omega
    · intro e
      have := ih.2 fun i hi => e i (by omega)
      have := e n (by omega)
      omega

/-! ### sums and remainders -/
theorem sum_divmod (N : Nat) (t : List Nat) : t.sum = (t.map (· / N)).sum * N + (t.map (· % N)).sum := by
  induction t with
  | nil => simp
  | cons x r ih =>
    simp only [List.sum_cons, List.map_cons, Nat.add_mul]
    have := Nat.div_add_mod x N
    rw [Nat.mul_comm] at this
    omega

theorem sum_div {N : Nat} (hN : 0 < N) (t : List Nat) : (t.map (· / N)).sum + (t.map (· % N)).sum / N = t.sum / N := by
  rw [sum_divmod N t, Nat.mul_comm, Nat.mul_add_div hN]

theorem sum_mod (N : Nat) (t : List Nat) : (t.map (· % N)).sum % N = t.sum % N := by
  rw [sum_divmod N t, Nat.mul_comm, Nat.mul_add_mod]

theorem carT_eq {B : Nat} (hB : 0 < B) : ∀ (k : Nat) (t : List Nat), (∀ x ∈ t, x < B ^ k) → carT B k t = t.sum / B ^ k
  | 0, t, h => by
    have : t.sum = 0 := by
      induction t with
      | nil => rfl
      | cons x r ih =>
        have := h x (by simp)
        rw [List.sum_cons, ih fun y hy => h y (by simp [hy])]
        simp at this
        omega
    simp [carT, this]
  | k + 1, t, h => by
    have hp : 0 < B ^ k := Nat.pow_pos hB
    rw [carT, carT_eq hB k _ (fun x hx => by
      obtain ⟨y, _, rfl⟩ := List.mem_map.1 hx
      exact Nat.mod_lt _ hp), sum_div hp, Nat.div_div_eq_div_mul, Nat.pow_succ]

theorem colT_eq {B : Nat} (hB : 0 < B) (k : Nat) (t : List Nat) : colT B k t = t.sum / B ^ k := by
  have hp : 0 < B ^ k := Nat.pow_pos hB
  rw [colT, carT_eq hB k _ (fun x hx => by
      obtain ⟨y, _, rfl⟩ := List.mem_map.1 hx
      exact Nat.mod_lt _ hp), sum_div hp]

theorem map_mod_mod {B k K : Nat} (h : k ≤ K) (t : List Nat) : (t.map (· % B ^ K)).map (· % B ^ k) = t.map (· % B ^ k) := by
  rw [List.map_map]
  apply List.map_congr_left
  intro x _
  exact Nat.mod_mod_of_dvd x (Nat.pow_dvd_pow B h)

theorem map_mod_self {N : Nat} {t : List Nat} (h : ∀ x ∈ t, x < N) : t.map (· % N) = t := by
  induction t with
  | nil => rfl
  | cons x r ih => rw [List.map_cons, Nat.mod_eq_of_lt (h x (by simp)), ih fun y hy => h y (by simp [hy])]

/-! ### readings -/
/-- A digit of a number of a reading. -/
def dgN (b : Bk) (l : List Nat) (c p : Nat) : Nat := (l[c]?.getD default) / b.base.toNat ^ (b.places.toNat - 1 - p) % b.base.toNat

/-- What is carried from a place. -/
def carN (b : Bk) (l : List Nat) (p : Nat) : Nat := ((l.take b.cords.length).map (· % b.base.toNat ^ (b.places.toNat - p))).sum / b.base.toNat ^ (b.places.toNat - p)

def allOK (b : Bk) (may : Nat → Nat → Nat → Bool) (carry : Nat → Nat → Bool) (l : List Nat) : Bool :=
  (List.range b.places.toNat).all fun p => ((List.range (b.cords.length + 1)).all fun c => may c p (dgN b l c p)) && carry p (carN b l p)

def cordSp (b : Bk) (c p : Nat) : Sp := (cordAt b c)[p]?.getD default

def costN (b : Bk) (l : List Nat) : Int := isum (b.cords.length + 1) fun c => isum b.places.toNat fun p => costL (cordSp b c p) (dgN b l c p : Nat)

/-- One place of 'okT'. -/
def okP (b : Bk) (may : Nat → Nat → Nat → Bool) (carry : Nat → Nat → Bool) (k : Nat) (u : List Nat) : Bool :=
  colOK may (b.places.toNat - 1 - k) b.cords.length (u.map (· / b.base.toNat ^ k)) &&
      (may b.cords.length (b.places.toNat - 1 - k) (colT b.base.toNat k u % b.base.toNat) && carry (b.places.toNat - 1 - k) (colT b.base.toNat k u / b.base.toNat))

def costP (b : Bk) (k : Nat) (u : List Nat) : Int :=
  colCost b (b.places.toNat - 1 - k) b.cords.length (u.map (· / b.base.toNat ^ k)) + costL (topAt b (b.places.toNat - 1 - k)) (colT b.base.toNat k u % b.base.toNat : Nat)

theorem okT_places (b : Bk) (may : Nat → Nat → Nat → Bool) (carry : Nat → Nat → Bool) : ∀ (K : Nat) (t : List Nat), (∀ x ∈ t, x < b.base.toNat ^ K) →
    (okT b may carry K t = true ↔ ∀ k, k < K → okP b may carry k (t.map (· % b.base.toNat ^ (k + 1))) = true)
  | 0, t, _ => ⟨fun _ k hk => by omega, fun _ => rfl⟩
  | K + 1, t, h => by
    by_cases hB : b.base.toNat = 0
    · -- no number is below 0
      cases t with
      | nil =>
        have ih := okT_places b may carry K [] (by simp)
        show (okT b may carry K ([].map _) && okP b may carry K []) = true ↔ _
        rw [Bool.and_eq_true]
        simp only [List.map_nil] at ih ⊢
        rw [ih]
        constructor
        · rintro ⟨h1, h2⟩ k hk
          rcases Nat.lt_or_ge k K with hl | hl
          · exact h1 k hl
          · have : k = K := by omega
            subst this
            exact h2
        · intro h1
          exact ⟨fun k hk => h1 k (by omega), h1 K (by omega)⟩
      | cons x r =>
        have := h x (by simp)
        rw [hB, Nat.zero_pow (by omega)] at this
        omega
    · have hp : 0 < b.base.toNat ^ K := Nat.pow_pos (by omega)
      have ih := okT_places b may carry K (t.map (· % b.base.toNat ^ K)) (fun x hx => by
        obtain ⟨y, _, rfl⟩ := List.mem_map.1 hx
        exact Nat.mod_lt _ hp)
      show (okT b may carry K (t.map (· % b.base.toNat ^ K)) && okP b may carry K t) = true ↔ _
      rw [Bool.and_eq_true, ih]
      constructor
      · rintro ⟨h1, h2⟩ k hk
        rcases Nat.lt_or_ge k K with hl | hl
        · have := h1 k hl
          rwa [map_mod_mod (by omega)] at this
        · have : k = K := by omega
          subst this
          rw [map_mod_self h]
          exact h2
      · intro h1
        refine ⟨fun k hk => ?_, ?_⟩
        · rw [map_mod_mod (by omega)]
          exact h1 k (by omega)
        · have := h1 K (by omega)
          rwa [map_mod_self h] at this

theorem costT_places (b : Bk) (hB : 0 < b.base.toNat) : ∀ (K : Nat) (t : List Nat), (∀ x ∈ t, x < b.base.toNat ^ K) →
    costT b K t = isum K fun k => costP b k (t.map (· % b.base.toNat ^ (k + 1)))
  | 0, t, _ => rfl
  | K + 1, t, h => by
    have hp : 0 < b.base.toNat ^ K := Nat.pow_pos hB
    have ih := costT_places b hB K (t.map (· % b.base.toNat ^ K)) (fun x hx => by
        obtain ⟨y, _, rfl⟩ := List.mem_map.1 hx
        exact Nat.mod_lt _ hp)
    rw [isum_succ, map_mod_self h, costT, ih, Int.add_assoc]
    rw [show costP b K t = _ from rfl, costP]
    congr 1
    exact isum_congr fun k hk => by rw [map_mod_mod (by omega)]

/-- The digits and the sum's digit at a place. -/
theorem place_digits {b : Bk} (hB : 0 < b.base.toNat) {t : List Nat} (ht : t.length = b.cords.length) {k : Nat} (hk : k < b.places.toNat) :
    (∀ c, c < b.cords.length → ((t.map (· % b.base.toNat ^ (k + 1))).map (· / b.base.toNat ^ k))[c]?.getD default = dgN b (t ++ [t.sum]) c (b.places.toNat - 1 - k)) ∧
    colT b.base.toNat k (t.map (· % b.base.toNat ^ (k + 1))) % b.base.toNat = dgN b (t ++ [t.sum]) b.cords.length (b.places.toNat - 1 - k) ∧
    colT b.base.toNat k (t.map (· % b.base.toNat ^ (k + 1))) / b.base.toNat = carN b (t ++ [t.sum]) (b.places.toNat - 1 - k) := by
  have e0 : b.places.toNat - 1 - (b.places.toNat - 1 - k) = k := by omega
  have e1 : b.places.toNat - (b.places.toNat - 1 - k) = k + 1 := by omega
  refine ⟨fun c hc => ?_, ?_, ?_⟩
  · have hc2 : c < t.length := by omega
    unfold dgN
    rw [e0, List.getElem?_append_left hc2]
    simp only [List.getElem?_map, List.getElem?_eq_getElem hc2, Option.map_some, Option.getD_some]
    rw [Nat.pow_succ, Nat.mod_mul_right_div_self]
  · unfold dgN
    rw [colT_eq hB, e0, ← ht, List.getElem?_append_right (Nat.le_refl _)]
    simp only [Nat.sub_self, List.getElem?_cons_zero, Option.getD_some]
    rw [← Nat.mod_mul_right_div_self, ← Nat.mod_mul_right_div_self, ← Nat.pow_succ, sum_mod]
  · unfold carN
    rw [colT_eq hB, e1, ← ht, List.take_left, Nat.div_div_eq_div_mul, ← Nat.pow_succ]

theorem okT_all {b : Bk} (hB : 0 < b.base.toNat) (may : Nat → Nat → Nat → Bool) (carry : Nat → Nat → Bool) {t : List Nat} (ht : t ∈ tup b.cords.length (b.base.toNat ^ b.places.toNat)) :
    okT b may carry b.places.toNat t = allOK b may carry (t ++ [t.sum]) := by
  obtain ⟨hl, hlt⟩ := tup_mem.1 ht
  rw [Bool.eq_iff_iff, okT_places b may carry _ t hlt]
  unfold allOK
  rw [List.all_eq_true]
  have key : ∀ k, k < b.places.toNat → (okP b may carry k (t.map (· % b.base.toNat ^ (k + 1))) = true ↔
      (((List.range (b.cords.length + 1)).all fun c => may c (b.places.toNat - 1 - k) (dgN b (t ++ [t.sum]) c (b.places.toNat - 1 - k))) && carry (b.places.toNat - 1 - k) (carN b (t ++ [t.sum]) (b.places.toNat - 1 - k))) = true) := by
    intro k hk
    obtain ⟨d1, d2, d3⟩ := place_digits hB hl hk
    unfold okP colOK
    rw [d2, d3]
    simp only [Bool.and_eq_true, List.all_eq_true, List.mem_range]
    constructor
    · rintro ⟨h1, h2, h3⟩
      refine ⟨fun c hc => ?_, h3⟩
      rcases Nat.lt_or_ge c b.cords.length with h | h
      · rw [← d1 c h]; exact h1 c h
      · rw [show c = b.cords.length by omega]; exact h2
    · rintro ⟨h1, h3⟩
      exact ⟨fun c hc => by rw [d1 c hc]; exact h1 c (by omega), h1 _ (by omega), h3⟩
  constructor
  · intro h p hp
    have hp := List.mem_range.1 hp
    have := (key (b.places.toNat - 1 - p) (by omega)).1 (h _ (by omega))
    rwa [show b.places.toNat - 1 - (b.places.toNat - 1 - p) = p by omega] at this
  · intro h k hk
    exact (key k hk).2 (h _ (List.mem_range.2 (by omega)))

/-- The other way through a sum. -/
theorem isum_rev (n : Nat) (f : Nat → Int) : (isum n fun k => f (n - 1 - k)) = isum n f := by
  have key : ∀ m, m ≤ n → (isum m fun k => f (n - 1 - k)) + isum (n - m) f = isum n f := by
    intro m
    induction m with
    | zero => intro _; rw [isum_zero, Nat.sub_zero, Int.zero_add]
    | succ m ih =>
      intro h
      have := ih (by omega)
      rw [isum_succ]
      rw [show n - m = (n - (m + 1)) + 1 by omega, isum_succ] at this
      rw [show n - 1 - m = n - (m + 1) by omega]
      omega
  have := key n (Nat.le_refl _)
  rw [Nat.sub_self, isum_zero] at this
  omega

theorem costT_all {b : Bk} (hB : 0 < b.base.toNat) {t : List Nat} (ht : t ∈ tup b.cords.length (b.base.toNat ^ b.places.toNat)) :
    costT b b.places.toNat t = costN b (t ++ [t.sum]) := by
  obtain ⟨hl, hlt⟩ := tup_mem.1 ht
  rw [costT_places b hB _ t hlt]
  unfold costN
  rw [isum_comm]
  refine Eq.trans (isum_congr fun k hk => ?_) (isum_rev b.places.toNat _)
  obtain ⟨d1, d2, d3⟩ := place_digits hB hl hk
  unfold costP
  rw [d2, isum_succ]
  have e2 : cordSp b b.cords.length (b.places.toNat - 1 - k) = topAt b (b.places.toNat - 1 - k) := by simp [cordSp, cordAt, topAt]
  rw [e2]
  congr 1
  show isum b.cords.length _ = _
  refine isum_congr fun c hc => ?_
  rw [d1 c hc]
  have : cordSp b c (b.places.toNat - 1 - k) = spAt b c (b.places.toNat - 1 - k) := by
    unfold cordSp cordAt spAt
    rw [if_neg (by omega)]
  rw [this]

theorem tieN_at (B : Nat) : ∀ (P n p : Nat), p < P → (tieN B P n)[p]?.getD default = ((n / B ^ (P - 1 - p) % B : Nat) : Int)
  | 0, _, _, h => by omega
  | P + 1, n, p, h => by
    rcases Nat.lt_or_ge p P with hl | hl
    · rw [tieN, List.getElem?_append_left (by rw [tieN_len]; exact hl), tieN_at B P _ p hl, Nat.div_div_eq_div_mul, Nat.mul_comm, ← Nat.pow_succ]
      congr 4
      omega
    · have : p = P := by omega
      subst this
      rw [tieN, List.getElem?_append_right (by rw [tieN_len]; omega), tieN_len]
      simp

theorem costL_zero {s : Sp} {d : Int} : costL s d = 0 ↔ within d s.lo s.hi = true := by
  unfold costL within
  simp only [decide_eq_true_eq]
  omega

theorem fits_cost {b : Bk} (hv : Val b) {c : Nat} (hc : c ≤ b.cords.length) (l : List Nat) : fitsL (cordAt b c) (tieN b.base.toNat b.places.toNat (l[c]?.getD default)) = true ↔ (isum b.places.toNat fun p => costL (cordSp b c p) (dgN b l c p : Nat)) = 0 := by
  have hlen := (cordAt_val hv hc).1
  rw [isum_eq0 fun p _ => costL_nonneg _ _]
  unfold fitsL
  rw [List.all_eq_true]
  have hl2 : (cordAt b c).length = b.places.toNat := by omega
  rw [hl2]
  constructor
  · intro h p hp
    have := h p (List.mem_range.2 hp)
    rw [tieN_at _ _ _ _ hp] at this
    exact costL_zero.2 this
  · intro h p hp
    have hp := List.mem_range.1 hp
    rw [tieN_at _ _ _ _ hp]
    exact costL_zero.1 (h p hp)

/-- The reference's lists as sums over tuples. -/
theorem sumF_sumsN (b : Bk) (freely : Bool) : ∀ (k : Nat) (first : List Nat) (g : List Nat → Nat),
    sumF (sumsN b freely k first) g = sumF (tup k (allN b)) fun t => if ((List.range k).all fun c => isN b (first.length + c) freely (t[c]?.getD default)) && (decide ((first ++ t).sum < allN b) && (freely || fitsL b.top (tieN b.base.toNat b.places.toNat (first ++ t).sum))) then g (first ++ t ++ [(first ++ t).sum]) else 0
  | 0, first, g => by
    simp only [sumsN, tup, sumF_cons, sumF_nil, List.range_zero, List.all_nil, Bool.true_and, List.append_nil, Nat.add_zero]
    split
    · rw [sumF_cons, sumF_nil, Nat.add_zero]
    · rfl
  | k + 1, first, g => by
    rw [sumsN, sumF_flatMap, sumF_filter, sumF_tup_succ]
    refine sumF_congr fun n _ => ?_
    rw [sumF_sumsN b freely k (first ++ [n]) g, sumF_if]
    refine sumF_congr fun t _ => ?_
    have e : ((List.range (k + 1)).all fun c => isN b (first.length + c) freely ((n :: t)[c]?.getD default)) = (isN b first.length freely n && (List.range k).all fun c => isN b ((first ++ [n]).length + c) freely (t[c]?.getD default)) := by
      rw [List.range_succ_eq_map, List.all_cons, List.all_map]
      simp only [Nat.add_zero, List.getElem?_cons_zero, Option.getD_some]
      congr 2
      funext c
      simp only [Function.comp_apply, List.getElem?_cons_succ, List.length_append, List.length_cons, List.length_nil]
      rw [show first.length + c.succ = first.length + (0 + 1) + c by omega]
    rw [e]
    simp only [List.append_assoc, List.singleton_append]
    by_cases h : isN b first.length freely n = true
    · simp [h]
    · simp [h]

theorem mem_of_sumF {α : Type} [DecidableEq α] (l : List α) (a : α) : 0 < (sumF l fun x => if x = a then 1 else 0) ↔ a ∈ l := by
  rw [sumF_pos]
  constructor
  · rintro ⟨x, hx, h⟩
    by_cases e : x = a
    · subst e; exact hx
    · rw [if_neg e] at h; omega
  · intro h
    exact ⟨a, h, by simp⟩

/-- Right readings that a loom lets be, counted. -/
theorem solveL_r {b : Bk} (hv : Val b) (may : Nat → Nat → Nat → Bool) (carry : Nat → Nat → Bool) :
    (solveL b may carry).r = ((sumF (allNs b) fun l => if allOK b may carry l then 1 else 0 : Nat) : Int) := by
  have hB : 0 < b.base.toNat := by have := hv.hb; omega
  have hp : 0 < b.base.toNat ^ b.places.toNat := Nat.pow_pos hB
  rw [(solveL_sem hv may carry).1]
  have h0 := solveW_LK b may carry b.places.toNat (Nat.le_refl _)
  rw [Nat.sub_self] at h0
  rw [show [((0 : Nat), (0 : Int))] = LK b may carry 0 from rfl, h0, sumF_LK, allNs, sumF_sumsN]
  congr 1
  refine sumF_congr fun t ht => ?_
  have hl := (tup_mem.1 ht).1
  rw [okT_all hB may carry ht, costT_all hB ht, carT_eq hB _ _ (tup_mem.1 ht).2]
  simp only [List.nil_append, Bool.false_or, List.length_nil, Nat.zero_add]
  have e1 : t.sum / b.base.toNat ^ b.places.toNat = 0 ↔ t.sum < allN b := by
    unfold allN
    rw [Nat.div_eq_zero_iff]
    constructor
    · rintro (h | h)
      · omega
      · exact h
    · exact .inr
  have hnn : ∀ c, 0 ≤ isum b.places.toNat fun p => costL (cordSp b c p) (dgN b (t ++ [t.sum]) c p : Nat) := fun c => isum_nonneg fun p _ => costL_nonneg _ _
  have e2 : costN b (t ++ [t.sum]) = 0 ↔ (((List.range b.cords.length).all fun c => isN b c false (t[c]?.getD default)) && fitsL b.top (tieN b.base.toNat b.places.toNat t.sum)) = true := by
    unfold costN
    rw [isum_eq0 fun c _ => hnn c, Bool.and_eq_true, List.all_eq_true]
    have k1 : ∀ c, c < b.cords.length → (t ++ [t.sum])[c]?.getD default = t[c]?.getD default := fun c hc => by rw [List.getElem?_append_left (by omega)]
    have k2 : (t ++ [t.sum])[b.cords.length]?.getD default = t.sum := by rw [← hl, List.getElem?_append_right (Nat.le_refl _)]; simp
    constructor
    · intro h
      refine ⟨fun c hc => ?_, ?_⟩
      · have hc := List.mem_range.1 hc
        unfold isN
        rw [Bool.false_or, ← k1 c hc]
        exact (fits_cost hv (by omega) _).2 (h c (by omega))
      · have := (fits_cost hv (Nat.le_refl _) (t ++ [t.sum])).2 (h _ (by omega))
        rw [k2] at this
        simpa [cordAt] using this
    · rintro ⟨h1, h2⟩ c hc
      rcases Nat.lt_or_ge c b.cords.length with h | h
      · have := h1 c (List.mem_range.2 h)
        unfold isN at this
        rw [Bool.false_or, ← k1 c h] at this
        exact (fits_cost hv (by omega) _).1 this
      · have hc2 : c = b.cords.length := by omega
        subst hc2
        refine (fits_cost hv (Nat.le_refl _) (t ++ [t.sum])).1 ?_
        rw [k2]
        simpa [cordAt] using h2
  simp only [e1, e2]
  by_cases q1 : allOK b may carry (t ++ [t.sum]) = true
  · simp only [q1, if_true]
    by_cases q2 : t.sum < allN b
    · simp only [q2, true_and, decide_true, Bool.true_and]
    · simp [q2]
  · simp [q1]

/-- The fewest knots, by the lists of any numbers. -/
theorem solveL_k {b : Bk} (hv : Val b) (may : Nat → Nat → Nat → Bool) (carry : Nat → Nat → Bool) :
    (∀ l ∈ sumsN b true b.cords.length [], allOK b may carry l = true → (solveL b may carry).k ≤ costN b l) ∧
    ((solveL b may carry).k = 1048576 ∨ ∃ l ∈ sumsN b true b.cords.length [], allOK b may carry l = true ∧ costN b l = (solveL b may carry).k) := by
  have hB : 0 < b.base.toNat := by have := hv.hb; omega
  have hp : 0 < b.base.toNat ^ b.places.toNat := Nat.pow_pos hB
  obtain ⟨_, s2, s3⟩ := solveL_sem hv may carry
  have h0 := solveW_LK b may carry b.places.toNat (Nat.le_refl _)
  rw [Nat.sub_self] at h0
  rw [show [((0 : Nat), (0 : Int))] = LK b may carry 0 from rfl, h0] at s2 s3
  have e1 : ∀ t : List Nat, t.sum / b.base.toNat ^ b.places.toNat = 0 ↔ t.sum < allN b := by
    intro t
    unfold allN
    rw [Nat.div_eq_zero_iff]
    constructor
    · rintro (h | h)
      · omega
      · exact h
    · exact .inr
  have m1 : ∀ x : Nat × Int, x ∈ LK b may carry b.places.toNat ↔ ∃ t ∈ tup b.cords.length (allN b), allOK b may carry (t ++ [t.sum]) = true ∧ x = (t.sum / b.base.toNat ^ b.places.toNat, costN b (t ++ [t.sum])) := by
    intro x
    rw [← mem_of_sumF, sumF_LK, sumF_pos]
    constructor
    · rintro ⟨t, ht, h⟩
      refine ⟨t, ht, ?_⟩
      rw [okT_all hB may carry ht, costT_all hB ht, carT_eq hB _ _ (tup_mem.1 ht).2] at h
      by_cases q : allOK b may carry (t ++ [t.sum]) = true
      · refine ⟨q, ?_⟩
        rw [if_pos q] at h
        by_cases q2 : (t.sum / b.base.toNat ^ b.places.toNat, costN b (t ++ [t.sum])) = x
        · exact q2.symm
        · rw [if_neg q2] at h; omega
      · rw [if_neg q] at h; omega
    · rintro ⟨t, ht, h1, h2⟩
      refine ⟨t, ht, ?_⟩
      rw [okT_all hB may carry ht, costT_all hB ht, carT_eq hB _ _ (tup_mem.1 ht).2, if_pos h1, if_pos h2.symm]
      omega
  have m2 : ∀ l : List Nat, l ∈ sumsN b true b.cords.length [] ↔ ∃ t ∈ tup b.cords.length (allN b), t.sum < allN b ∧ l = t ++ [t.sum] := by
    intro l
    rw [← mem_of_sumF, sumF_sumsN, sumF_pos]
    have e3 : ∀ t : List Nat, ((List.range b.cords.length).all fun c => isN b (([] : List Nat).length + c) true (t[c]?.getD default)) = true := by
      intro t
      rw [List.all_eq_true]
      intro c _
      rfl
    constructor
    · rintro ⟨t, ht, h⟩
      rw [e3] at h
      simp only [List.nil_append, Bool.true_or, Bool.and_true, Bool.true_and, decide_eq_true_eq] at h
      refine ⟨t, ht, ?_⟩
      by_cases q : t.sum < allN b
      · rw [if_pos q] at h
        by_cases q2 : t ++ [t.sum] = l
        · exact ⟨q, q2.symm⟩
        · rw [if_neg q2] at h; omega
      · rw [if_neg q] at h; omega
    · rintro ⟨t, ht, h1, h2⟩
      refine ⟨t, ht, ?_⟩
      rw [e3]
      simp only [List.nil_append, Bool.true_or, Bool.and_true, Bool.true_and, decide_eq_true_eq]
      rw [if_pos h1, if_pos h2.symm]
      omega
  refine ⟨fun l hl ho => ?_, ?_⟩
  · obtain ⟨t, ht, h1, rfl⟩ := (m2 l).1 hl
    have := s2 (t.sum / b.base.toNat ^ b.places.toNat, costN b (t ++ [t.sum])) ((m1 _).2 ⟨t, ht, ho, rfl⟩) ((e1 t).2 h1)
    exact this
  · rcases s3 with h | ⟨x, hx, h1, h2⟩
    · exact .inl h
    · obtain ⟨t, ht, ho, rfl⟩ := (m1 x).1 hx
      exact .inr ⟨t ++ [t.sum], (m2 _).2 ⟨t, ht, (e1 t).1 h1, rfl⟩, ho, h2⟩

end Go.Proofs.Ytkkiipjfbebipaa

/- The chapter's examples; works. -/
set_option linter.unusedSimpArgs false
set_option linter.unusedVariables false
set_option linter.unnecessarySimpa false
namespace Go.Proofs.Ytkkiipjfbebipaa
open Go Go.V

def bkK : Bk := ⟨10, 2, [[⟨1, 1⟩, ⟨2, 3⟩], [⟨0, 1⟩, ⟨5, 5⟩]], [⟨2, 2⟩, ⟨7, 8⟩]⟩
def bkL : Bk := ⟨10, 1, [[⟨3, 3⟩], [⟨4, 4⟩]], [⟨9, 9⟩]⟩

theorem ckK : checkB bkK = true := by kernel_rfl
theorem ckL : checkB bkL = true := by kernel_rfl
theorem smK : Small bkK := ⟨by decide, by decide, by decide⟩
theorem smL : Small bkL := ⟨by decide, by decide, by decide⟩
theorem allK : allNs bkK = [[12, 15, 27], [13, 15, 28]] := by kernel_rfl

/-! ### by the list of all right readings -/
def manyR (b : Bk) (L : List (List Nat)) (may : Nat → Nat → Nat → Bool) (carry : Nat → Nat → Bool) (c p d : Nat) : Int := ((sumF L fun l => if allOK b (onlyF may c p d) carry l then 1 else 0 : Nat) : Int)
def spanR (b : Bk) (L : List (List Nat)) (may : Nat → Nat → Nat → Bool) (carry : Nat → Nat → Bool) (cord place : Nat) (m : Nat) : Sp :=
  (List.range m).foldl (fun s d => if 0 < manyR b L may carry cord place d then ⟨min s.lo d, max s.hi d⟩ else s) ⟨b.base, 0⟩
def endR (b : Bk) (L : List (List Nat)) (carry : Nat → Nat → Bool) (cord : Nat) (sel : Sp → Int) : Nat → Nat → (Nat → Nat → Nat → Bool) → Int → Int
  | _, 0, _, n => n
  | p, k + 1, may, n => endR b L carry cord sel (p + 1) k (onlyF may cord p (sel (spanR b L may carry cord p b.base.toNat)).toNat) (numL b.base [n, sel (spanR b L may carry cord p b.base.toNat)])

theorem manyD_R {b : Bk} (hv : Val b) (may : Nat → Nat → Nat → Bool) (carry : Nat → Nat → Bool) (c p d : Nat) : manyD b may carry c p d = manyR b (allNs b) may carry c p d := solveL_r hv _ _
theorem spanD_R {b : Bk} (hv : Val b) (may : Nat → Nat → Nat → Bool) (carry : Nat → Nat → Bool) (c p m : Nat) : spanD b may carry c p m = spanR b (allNs b) may carry c p m := by
  unfold spanD spanR
  congr 1
  funext s d
  rw [manyD_R hv]
theorem endF_R {b : Bk} (hv : Val b) (carry : Nat → Nat → Bool) (cord : Nat) (sel : Sp → Int) : ∀ (k p : Nat) (may : Nat → Nat → Nat → Bool) (n : Int), endF b carry cord sel p k may n = endR b (allNs b) carry cord sel p k may n
  | 0, _, _, _ => rfl
  | k + 1, p, may, n => by
    rw [endF, endR, spanD_R hv, endF_R hv carry cord sel k]

def worstR (b : Bk) (L : List (List Nat)) (c p k : Nat) : Int :=
  (List.range k).foldl (fun w d => if 0 < manyR b L yes3 yes2 c p d then max w (manyR b L yes3 yes2 c p d) else w) 0
theorem worstD_R {b : Bk} (hv : Val b) (c p k : Nat) : worstD b c p k = worstR b (allNs b) c p k := by
  unfold worstD worstR
  congr 1
  funext w d
  rw [manyD_R hv]

theorem manyK : (solveL bkK yes3 yes2).r = 2 := by
  rw [solveL_r (val_of_check ckK), allK]
  kernel_rfl

theorem sureK : sureD bkK 1 = ⟨15, 15⟩ := by
  unfold sureD
  rw [endF_R (val_of_check ckK), endF_R (val_of_check ckK), allK]
  kernel_rfl

theorem askK : (askD bkK 3).c = 0 ∧ (askD bkK 3).p = 1 := by
  have h := fun c p k => worstD_R (val_of_check ckK) c p k
  rw [allK] at h
  unfold askD askRow askStep
  simp only [h]
  exact ⟨by kernel_rfl, by kernel_rfl⟩

theorem solveL_k_eq {b : Bk} (hv : Val b) (may : Nat → Nat → Nat → Bool) (carry : Nat → Nat → Bool) (z : Int) (hz : z < 1048576)
    (h1 : ((sumsN b true b.cords.length []).all fun l => !allOK b may carry l || decide (z ≤ costN b l)) = true)
    (h2 : ((sumsN b true b.cords.length []).any fun l => allOK b may carry l && decide (costN b l = z)) = true) : (solveL b may carry).k = z := by
  obtain ⟨k1, k2⟩ := solveL_k hv may carry
  rw [List.all_eq_true] at h1
  obtain ⟨l, hl, h2⟩ := List.any_eq_true.1 h2
  simp only [Bool.and_eq_true, decide_eq_true_eq] at h2
  have a1 := k1 l hl h2.1
  rcases k2 with h | ⟨l', hl', h3, h4⟩
  · omega
  · have := h1 l' hl'
    rw [h3] at this
    simp only [Bool.not_true, Bool.false_or, decide_eq_true_eq] at this
    omega

theorem retieL : (solveL bkL yes3 yes2).k = 2 := solveL_k_eq (val_of_check ckL) _ _ 2 (by decide) (by kernel_rfl) (by kernel_rfl)

theorem blameL0 : blameC bkL 0 = true := by
  unfold blameC
  rw [List.any_eq_true]
  refine ⟨0, by decide, ?_⟩
  rw [List.any_eq_true]
  refine ⟨5, by decide, ?_⟩
  unfold blameAt
  rw [retieL, solveL_k_eq (val_of_check ckL) (onlyF yes3 0 0 5) _ 2 (by decide) (by kernel_rfl) (by kernel_rfl)]
  kernel_rfl

theorem blameL1 : blameC bkL 1 = true := by
  unfold blameC
  rw [List.any_eq_true]
  refine ⟨0, by decide, ?_⟩
  rw [List.any_eq_true]
  refine ⟨6, by decide, ?_⟩
  unfold blameAt
  rw [retieL, solveL_k_eq (val_of_check ckL) (onlyF yes3 1 0 6) _ 2 (by decide) (by kernel_rfl) (by kernel_rfl)]
  kernel_rfl

theorem blameL2 : blameC bkL 2 = true := by
  unfold blameC
  rw [List.any_eq_true]
  refine ⟨0, by decide, ?_⟩
  rw [List.any_eq_true]
  refine ⟨7, by decide, ?_⟩
  unfold blameAt
  rw [retieL, solveL_k_eq (val_of_check ckL) (onlyF yes3 2 0 7) _ 2 (by decide) (by kernel_rfl) (by kernel_rfl)]
  kernel_rfl

theorem blameLL : blameL bkL 3 = [0, 1, 2] := by
  rw [blameL_succ, blameL_succ, blameL_succ, blameL0, blameL1, blameL2]
  rfl

theorem ag25 : aggOf Try.prog 25 = some true := by kernel_rfl
theorem sz25 : szOf Try.prog 25 = some 4 := by kernel_rfl

attribute [go_sem] ag25 sz25

theorem c63 : Ctr Try.prog 63 [] (.tup [KB bkK, KB bkL]) := by
  refine ctr_of_wp hmix Try.func63 m63 rfl ?_
  unfold v63
  simp (config := { failIfUnchanged := false }) (disch := first | omega | (simp [wcs_len] <;> omega) | fail) only [go_sem, ↓reduceIte, reduceCtorEq, Nat.reduceEqDiff, Nat.reduceAdd, Nat.reduceMul, Nat.reduceSub, Nat.reduceLeDiff, Int.reduceEq, Int.reduceLT, Int.reduceLE, Int.reduceAdd, Int.reduceSub, Int.reduceMul, Int.reduceNeg, Int.reduceToNat]
  rfl

theorem c17 : Ctr Try.prog 17 [] (.bool true) := by
  refine ctr_of_wp hmix Try.func17 m17 rfl ?_
  unfold v17
  simp (config := { failIfUnchanged := false }) (disch := first | omega | (simp [wcs_len] <;> omega) | fail) only [go_sem, ↓reduceIte, reduceCtorEq, Nat.reduceEqDiff, Nat.reduceAdd, Nat.reduceMul, Nat.reduceSub, Nat.reduceLeDiff, Int.reduceEq, Int.reduceLT, Int.reduceLE, Int.reduceAdd, Int.reduceSub, Int.reduceMul, Int.reduceNeg, Int.reduceToNat]
  refine wcall c63 ?_
  simp (config := { failIfUnchanged := false }) (disch := first | omega | (simp [wcs_len] <;> omega) | fail) only [go_sem, ↓reduceIte, reduceCtorEq, Nat.reduceEqDiff, Nat.reduceAdd, Nat.reduceMul, Nat.reduceSub, Nat.reduceLeDiff, Int.reduceEq, Int.reduceLT, Int.reduceLE, Int.reduceAdd, Int.reduceSub, Int.reduceMul, Int.reduceNeg, Int.reduceToNat]
  refine wcall (c42t bkK smK 13) ?_
  rw [if_pos ckK, if_pos (by kernel_rfl), show tieN bkK.base.toNat bkK.places.toNat (13 : Int).toNat = [1, 3] by kernel_rfl]
  simp (config := { failIfUnchanged := false }) (disch := first | omega | (simp [wcs_len] <;> omega) | fail) only [go_sem, ↓reduceIte, reduceCtorEq, Nat.reduceEqDiff, Nat.reduceAdd, Nat.reduceMul, Nat.reduceSub, Nat.reduceLeDiff, Int.reduceEq, Int.reduceLT, Int.reduceLE, Int.reduceAdd, Int.reduceSub, Int.reduceMul, Int.reduceNeg, Int.reduceToNat]
  refine wcall (c34 bkK smK) ?_
  rw [if_pos ckK, manyK]
  simp (config := { failIfUnchanged := false }) (disch := first | omega | (simp [wcs_len] <;> omega) | fail) only [go_sem, ↓reduceIte, reduceCtorEq, Nat.reduceEqDiff, Nat.reduceAdd, Nat.reduceMul, Nat.reduceSub, Nat.reduceLeDiff, Int.reduceEq, Int.reduceLT, Int.reduceLE, Int.reduceAdd, Int.reduceSub, Int.reduceMul, Int.reduceNeg, Int.reduceToNat]
  refine wcall (c35 bkK smK 1) ?_
  unfold ansR
  rw [if_pos ckK, if_pos (by kernel_rfl), if_neg (by rw [manyK]; decide), show (1 : Int).toNat = 1 from rfl, sureK]
  simp (config := { failIfUnchanged := false }) (disch := first | omega | (simp [wcs_len] <;> omega) | fail) only [go_sem, ↓reduceIte, reduceCtorEq, Nat.reduceEqDiff, Nat.reduceAdd, Nat.reduceMul, Nat.reduceSub, Nat.reduceLeDiff, Int.reduceEq, Int.reduceLT, Int.reduceLE, Int.reduceAdd, Int.reduceSub, Int.reduceMul, Int.reduceNeg, Int.reduceToNat]
  refine wcall (c19 bkK smK) ?_
  rw [if_pos ckK, if_neg (by rw [manyK]; decide), show bkK.cords.length + 1 = 3 from rfl, askK.1, askK.2]
  simp (config := { failIfUnchanged := false }) (disch := first | omega | (simp [wcs_len] <;> omega) | fail) only [go_sem, ↓reduceIte, reduceCtorEq, Nat.reduceEqDiff, Nat.reduceAdd, Nat.reduceMul, Nat.reduceSub, Nat.reduceLeDiff, Int.reduceEq, Int.reduceLT, Int.reduceLE, Int.reduceAdd, Int.reduceSub, Int.reduceMul, Int.reduceNeg, Int.reduceToNat]
  refine wcall (c23 bkL smL) ?_
  rw [if_pos ckL, retieL]
  simp (config := { failIfUnchanged := false }) (disch := first | omega | (simp [wcs_len] <;> omega) | fail) only [go_sem, ↓reduceIte, reduceCtorEq, Nat.reduceEqDiff, Nat.reduceAdd, Nat.reduceMul, Nat.reduceSub, Nat.reduceLeDiff, Int.reduceEq, Int.reduceLT, Int.reduceLE, Int.reduceAdd, Int.reduceSub, Int.reduceMul, Int.reduceNeg, Int.reduceToNat]
  refine wcall (c25 bkL smL) ?_
  rw [if_pos ckL, show bkL.cords.length + 1 = 3 from rfl, blameLL, if_neg (by decide)]
  simp (config := { failIfUnchanged := false }) (disch := first | omega | (simp [wcs_len] <;> omega) | fail) only [go_sem, ↓reduceIte, reduceCtorEq, Nat.reduceEqDiff, Nat.reduceAdd, Nat.reduceMul, Nat.reduceSub, Nat.reduceLeDiff, Int.reduceEq, Int.reduceLT, Int.reduceLE, Int.reduceAdd, Int.reduceSub, Int.reduceMul, Int.reduceNeg, Int.reduceToNat]
  refine wcall (c27 [1, 3] [1, 3] (by simp)) ?_
  simp (config := { failIfUnchanged := false }) (disch := first | omega | (simp [wcs_len] <;> omega) | fail) only [go_sem, ↓reduceIte, reduceCtorEq, Nat.reduceEqDiff, Nat.reduceAdd, Nat.reduceMul, Nat.reduceSub, Nat.reduceLeDiff, Int.reduceEq, Int.reduceLT, Int.reduceLE, Int.reduceAdd, Int.reduceSub, Int.reduceMul, Int.reduceNeg, Int.reduceToNat]
  refine wcall (c27 [0, 1, 2] [0, 1, 2] (by simp)) ?_
  simp (config := { failIfUnchanged := false }) (disch := first | omega | (simp [wcs_len] <;> omega) | fail) only [go_sem, ↓reduceIte, reduceCtorEq, Nat.reduceEqDiff, Nat.reduceAdd, Nat.reduceMul, Nat.reduceSub, Nat.reduceLeDiff, Int.reduceEq, Int.reduceLT, Int.reduceLE, Int.reduceAdd, Int.reduceSub, Int.reduceMul, Int.reduceNeg, Int.reduceToNat]

end Go.Proofs.Ytkkiipjfbebipaa

/- The laws' own functions: Huge, Same, Copy. -/
set_option linter.unusedSimpArgs false
set_option linter.unusedVariables false
set_option linter.unnecessarySimpa false
namespace Go.Proofs.Ytkkiipjfbebipaa
open Go Go.V

def hugeB (b : Bk) : Bool := decide (40 < (b.cords.length : Int)) || (decide (40 < (b.top.length : Int)) || b.cords.any fun l => decide (40 < (l.length : Int)))

theorem c48 (b : Bk) (h1 : b.cords.length < 9223372036854775808) : Ctr Try.prog 48 [KB b] (.bool (hugeB b)) := by
  refine ctr_of_wp hmix Try.func48 m48 rfl ?_
  unfold v48 hugeB
  simp (config := { failIfUnchanged := false }) (disch := first | omega | (simp [wcs_len] <;> omega) | fail) only [go_sem, ↓reduceIte, reduceCtorEq, Nat.reduceEqDiff, Nat.reduceAdd, Nat.reduceMul, Nat.reduceSub, Nat.reduceLeDiff, Int.reduceEq, Int.reduceLT, Int.reduceLE, Int.reduceAdd, Int.reduceSub, Int.reduceMul, Int.reduceNeg, Int.reduceToNat]
  refine WGd_bool (fun h => ?_) (fun h => ?_)
  · simp (config := { failIfUnchanged := false }) (disch := first | omega | (simp [wcs_len] <;> omega) | fail) only [go_sem, ↓reduceIte, reduceCtorEq, Nat.reduceEqDiff, Nat.reduceAdd, Nat.reduceMul, Nat.reduceSub, Nat.reduceLeDiff, Int.reduceEq, Int.reduceLT, Int.reduceLE, Int.reduceAdd, Int.reduceSub, Int.reduceMul, Int.reduceNeg, Int.reduceToNat, h]
    refine wcond_dec (fun h2 => ?_) (fun h2 => ?_)
    · simp (config := { failIfUnchanged := false }) (disch := first | omega | (simp [wcs_len] <;> omega) | fail) only [go_sem, ↓reduceIte, reduceCtorEq, Nat.reduceEqDiff, Nat.reduceAdd, Nat.reduceMul, Nat.reduceSub, Nat.reduceLeDiff, Int.reduceEq, Int.reduceLT, Int.reduceLE, Int.reduceAdd, Int.reduceSub, Int.reduceMul, Int.reduceNeg, Int.reduceToNat, h2]
    · have h40 : ¬ 40 < (b.cords.length : Int) := by
        simpa using h
      simp (config := { failIfUnchanged := false }) (disch := first | omega | (simp [wcs_len] <;> omega) | fail) only [go_sem, ↓reduceIte, reduceCtorEq, Nat.reduceEqDiff, Nat.reduceAdd, Nat.reduceMul, Nat.reduceSub, Nat.reduceLeDiff, Int.reduceEq, Int.reduceLT, Int.reduceLE, Int.reduceAdd, Int.reduceSub, Int.reduceMul, Int.reduceNeg, Int.reduceToNat, h2]
      refine wp_loop' Nat (fun i => ⟨[(1, .ptr 1 0), (3, .int i)], [(1, ⟨[.int b.base, .int b.places, .sl 1 (b.cords.map SS) .sh, SS b.top], false⟩)], [], none⟩) (fun i => i ≤ b.cords.length ∧ ∀ x ∈ b.cords.take i, decide (40 < (x.length : Int)) = false) (fun i => b.cords.length - i) 0 (by simp) (by simp (config := { failIfUnchanged := false }) (disch := first | omega | (simp [wcs_len] <;> omega) | fail) only [go_sem, ↓reduceIte, reduceCtorEq, Nat.reduceEqDiff, Nat.reduceAdd, Nat.reduceMul, Nat.reduceSub, Nat.reduceLeDiff, Int.reduceEq, Int.reduceLT, Int.reduceLE, Int.reduceAdd, Int.reduceSub, Int.reduceMul, Int.reduceNeg, Int.reduceToNat]; rfl) ?_
      rintro i ⟨hi, hpre⟩
      simp (config := { failIfUnchanged := false }) (disch := first | omega | (simp [wcs_len] <;> omega) | fail) only [go_sem, ↓reduceIte, reduceCtorEq, Nat.reduceEqDiff, Nat.reduceAdd, Nat.reduceMul, Nat.reduceSub, Nat.reduceLeDiff, Int.reduceEq, Int.reduceLT, Int.reduceLE, Int.reduceAdd, Int.reduceSub, Int.reduceMul, Int.reduceNeg, Int.reduceToNat]
      refine wcond_dec (fun h3 => ?_) (fun h3 => ?_)
      · have hlt : i < b.cords.length := by omega
        simp (config := { failIfUnchanged := false }) (disch := first | omega | (simp [wcs_len] <;> omega) | fail) only [go_sem, ↓reduceIte, reduceCtorEq, Nat.reduceEqDiff, Nat.reduceAdd, Nat.reduceMul, Nat.reduceSub, Nat.reduceLeDiff, Int.reduceEq, Int.reduceLT, Int.reduceLE, Int.reduceAdd, Int.reduceSub, Int.reduceMul, Int.reduceNeg, Int.reduceToNat]
        refine wcond_dec (fun h4 => ?_) (fun h4 => ?_)
        · simp (config := { failIfUnchanged := false }) (disch := first | omega | (simp [wcs_len] <;> omega) | fail) only [go_sem, ↓reduceIte, reduceCtorEq, Nat.reduceEqDiff, Nat.reduceAdd, Nat.reduceMul, Nat.reduceSub, Nat.reduceLeDiff, Int.reduceEq, Int.reduceLT, Int.reduceLE, Int.reduceAdd, Int.reduceSub, Int.reduceMul, Int.reduceNeg, Int.reduceToNat]
          have : b.cords.any (fun l => decide (40 < (l.length : Int))) = true := List.any_eq_true.2 ⟨_, mem_getD hlt, by simpa using h4⟩
          simp [this]
        · simp (config := { failIfUnchanged := false }) (disch := first | omega | (simp [wcs_len] <;> omega) | fail) only [go_sem, ↓reduceIte, reduceCtorEq, Nat.reduceEqDiff, Nat.reduceAdd, Nat.reduceMul, Nat.reduceSub, Nat.reduceLeDiff, Int.reduceEq, Int.reduceLT, Int.reduceLE, Int.reduceAdd, Int.reduceSub, Int.reduceMul, Int.reduceNeg, Int.reduceToNat]
          refine ⟨i + 1, ⟨by omega, take_succ_all hlt hpre (by simpa using h4)⟩, by dsimp only; omega, ?_⟩
          simp (config := { failIfUnchanged := false }) (disch := first | omega | (simp [wcs_len] <;> omega) | fail) only [go_sem, ↓reduceIte, reduceCtorEq, Nat.reduceEqDiff, Nat.reduceAdd, Nat.reduceMul, Nat.reduceSub, Nat.reduceLeDiff, Int.reduceEq, Int.reduceLT, Int.reduceLE, Int.reduceAdd, Int.reduceSub, Int.reduceMul, Int.reduceNeg, Int.reduceToNat]
          simp
      · simp (config := { failIfUnchanged := false }) (disch := first | omega | (simp [wcs_len] <;> omega) | fail) only [go_sem, ↓reduceIte, reduceCtorEq, Nat.reduceEqDiff, Nat.reduceAdd, Nat.reduceMul, Nat.reduceSub, Nat.reduceLeDiff, Int.reduceEq, Int.reduceLT, Int.reduceLE, Int.reduceAdd, Int.reduceSub, Int.reduceMul, Int.reduceNeg, Int.reduceToNat]
        have e : i = b.cords.length := by omega
        have : b.cords.any (fun l => decide (40 < (l.length : Int))) = false := by
          rw [List.any_eq_false]
          intro x hx
          have := hpre x (by rw [e, List.take_length]; exact hx)
          simpa using this
        rw [this]
  · simp (config := { failIfUnchanged := false }) (disch := first | omega | (simp [wcs_len] <;> omega) | fail) only [go_sem, ↓reduceIte, reduceCtorEq, Nat.reduceEqDiff, Nat.reduceAdd, Nat.reduceMul, Nat.reduceSub, Nat.reduceLeDiff, Int.reduceEq, Int.reduceLT, Int.reduceLE, Int.reduceAdd, Int.reduceSub, Int.reduceMul, Int.reduceNeg, Int.reduceToNat, h]

/-- A book that is not huge. -/
theorem small_of_huge {b : Bk} (h : hugeB b = false) : b.cords.length ≤ 40 ∧ b.top.length ≤ 40 ∧ ∀ l ∈ b.cords, l.length ≤ 40 := by
  simp only [hugeB, Bool.or_eq_false_iff, decide_eq_false_iff_not, List.any_eq_false, decide_eq_true_eq] at h
  obtain ⟨h1, h2, h3⟩ := h
  exact ⟨by omega, by omega, fun l hl => by have := h3 l hl; omega⟩

theorem small_small {b : Bk} (h : hugeB b = false) : Small b := by
  obtain ⟨h1, h2, h3⟩ := small_of_huge h
  exact ⟨by omega, by omega, fun l hl => by have := h3 l hl; omega⟩

theorem c70 (a b : List Sp) (ha : a.length < 4294967296) : Ctr Try.prog 70 [SS a, SS b] (.bool (decide (a = b))) := by
  refine ctr_of_wp hmix Try.func70 m70 rfl ?_
  unfold v70
  simp (config := { failIfUnchanged := false }) (disch := first | omega | (simp [wcs_len] <;> omega) | fail) only [go_sem, ↓reduceIte, reduceCtorEq, Nat.reduceEqDiff, Nat.reduceAdd, Nat.reduceMul, Nat.reduceSub, Nat.reduceLeDiff, Int.reduceEq, Int.reduceLT, Int.reduceLE, Int.reduceAdd, Int.reduceSub, Int.reduceMul, Int.reduceNeg, Int.reduceToNat]
  refine wcond_dec (fun h => ?_) (fun h => ?_)
  · simp (config := { failIfUnchanged := false }) (disch := first | omega | (simp [wcs_len] <;> omega) | fail) only [go_sem, ↓reduceIte, reduceCtorEq, Nat.reduceEqDiff, Nat.reduceAdd, Nat.reduceMul, Nat.reduceSub, Nat.reduceLeDiff, Int.reduceEq, Int.reduceLT, Int.reduceLE, Int.reduceAdd, Int.reduceSub, Int.reduceMul, Int.reduceNeg, Int.reduceToNat]
    have : a ≠ b := fun e => by subst e; simp at h
    simp [this]
  · simp (config := { failIfUnchanged := false }) (disch := first | omega | (simp [wcs_len] <;> omega) | fail) only [go_sem, ↓reduceIte, reduceCtorEq, Nat.reduceEqDiff, Nat.reduceAdd, Nat.reduceMul, Nat.reduceSub, Nat.reduceLeDiff, Int.reduceEq, Int.reduceLT, Int.reduceLE, Int.reduceAdd, Int.reduceSub, Int.reduceMul, Int.reduceNeg, Int.reduceToNat]
    refine wp_loop' Nat (fun i => ⟨[(0, SS a), (1, SS b), (5, .int i)], [], [], none⟩) (fun i => i ≤ a.length ∧ a.take i = b.take i) (fun i => a.length - i) 0 (by simp) (by simp (config := { failIfUnchanged := false }) (disch := first | omega | (simp [wcs_len] <;> omega) | fail) only [go_sem, ↓reduceIte, reduceCtorEq, Nat.reduceEqDiff, Nat.reduceAdd, Nat.reduceMul, Nat.reduceSub, Nat.reduceLeDiff, Int.reduceEq, Int.reduceLT, Int.reduceLE, Int.reduceAdd, Int.reduceSub, Int.reduceMul, Int.reduceNeg, Int.reduceToNat]; rfl) ?_
    rintro i ⟨hi, hpre⟩
    simp (config := { failIfUnchanged := false }) (disch := first | omega | (simp [wcs_len] <;> omega) | fail) only [go_sem, ↓reduceIte, reduceCtorEq, Nat.reduceEqDiff, Nat.reduceAdd, Nat.reduceMul, Nat.reduceSub, Nat.reduceLeDiff, Int.reduceEq, Int.reduceLT, Int.reduceLE, Int.reduceAdd, Int.reduceSub, Int.reduceMul, Int.reduceNeg, Int.reduceToNat]
    have hl : a.length = b.length := by omega
    refine wcond_dec (fun h => ?_) (fun h => ?_)
    · have hlt : i < a.length := by omega
      have hlt2 : i < b.length := by omega
      obtain ⟨x, hx⟩ : ∃ x, a[i]?.getD default = x := ⟨_, rfl⟩
      obtain ⟨y, hy⟩ : ∃ y, b[i]?.getD default = y := ⟨_, rfl⟩
      have e1 : a[i]? = some x := by rw [← hx, List.getElem?_eq_getElem hlt]; rfl
      have e2 : b[i]? = some y := by rw [← hy, List.getElem?_eq_getElem hlt2]; rfl
      simp (config := { failIfUnchanged := false }) (disch := first | omega | (simp [wcs_len] <;> omega) | fail) only [go_sem, ↓reduceIte, reduceCtorEq, Nat.reduceEqDiff, Nat.reduceAdd, Nat.reduceMul, Nat.reduceSub, Nat.reduceLeDiff, Int.reduceEq, Int.reduceLT, Int.reduceLE, Int.reduceAdd, Int.reduceSub, Int.reduceMul, Int.reduceNeg, Int.reduceToNat, hx, hy]
      refine wcond_bool (fun h => ?_) (fun h => ?_)
      · simp (config := { failIfUnchanged := false }) (disch := first | omega | (simp [wcs_len] <;> omega) | fail) only [go_sem, ↓reduceIte, reduceCtorEq, Nat.reduceEqDiff, Nat.reduceAdd, Nat.reduceMul, Nat.reduceSub, Nat.reduceLeDiff, Int.reduceEq, Int.reduceLT, Int.reduceLE, Int.reduceAdd, Int.reduceSub, Int.reduceMul, Int.reduceNeg, Int.reduceToNat]
        have : a ≠ b := fun e => by
          subst e
          rw [e1] at e2
          injection e2 with e2
          subst e2
          simp [sameCells] at h
        simp [this]
      · simp (config := { failIfUnchanged := false }) (disch := first | omega | (simp [wcs_len] <;> omega) | fail) only [go_sem, ↓reduceIte, reduceCtorEq, Nat.reduceEqDiff, Nat.reduceAdd, Nat.reduceMul, Nat.reduceSub, Nat.reduceLeDiff, Int.reduceEq, Int.reduceLT, Int.reduceLE, Int.reduceAdd, Int.reduceSub, Int.reduceMul, Int.reduceNeg, Int.reduceToNat]
        refine ⟨i + 1, ⟨by omega, ?_⟩, by dsimp only; omega, ?_⟩
        · have hxy : x = y := by
            obtain ⟨x1, x2⟩ := x
            obtain ⟨y1, y2⟩ := y
            simp [sameCells] at h
            rw [h.1, h.2]
          rw [List.take_add_one, List.take_add_one, hpre, e1, e2, hxy]
        · simp (config := { failIfUnchanged := false }) (disch := first | omega | (simp [wcs_len] <;> omega) | fail) only [go_sem, ↓reduceIte, reduceCtorEq, Nat.reduceEqDiff, Nat.reduceAdd, Nat.reduceMul, Nat.reduceSub, Nat.reduceLeDiff, Int.reduceEq, Int.reduceLT, Int.reduceLE, Int.reduceAdd, Int.reduceSub, Int.reduceMul, Int.reduceNeg, Int.reduceToNat]
          simp
    · simp (config := { failIfUnchanged := false }) (disch := first | omega | (simp [wcs_len] <;> omega) | fail) only [go_sem, ↓reduceIte, reduceCtorEq, Nat.reduceEqDiff, Nat.reduceAdd, Nat.reduceMul, Nat.reduceSub, Nat.reduceLeDiff, Int.reduceEq, Int.reduceLT, Int.reduceLE, Int.reduceAdd, Int.reduceSub, Int.reduceMul, Int.reduceNeg, Int.reduceToNat]
      have e : i = a.length := by omega
      have : a = b := by
        rw [e, List.take_length, hl, List.take_length] at hpre
        exact hpre
      simp [this]

theorem c21 (a b : Bk) (hs : Small a) : Ctr Try.prog 21 [KB a, KB b] (.bool (decide (a = b))) := by
  refine ctr_of_wp hmix Try.func21 m21 rfl ?_
  unfold v21
  have hsc := hs.cords
  simp (config := { failIfUnchanged := false }) (disch := first | omega | (simp [wcs_len] <;> omega) | fail) only [go_sem, ↓reduceIte, reduceCtorEq, Nat.reduceEqDiff, Nat.reduceAdd, Nat.reduceMul, Nat.reduceSub, Nat.reduceLeDiff, Int.reduceEq, Int.reduceLT, Int.reduceLE, Int.reduceAdd, Int.reduceSub, Int.reduceMul, Int.reduceNeg, Int.reduceToNat]
  refine WGd_bool (fun h1 => ?_) (fun h1 => ?_)
  · simp (config := { failIfUnchanged := false }) (disch := first | omega | (simp [wcs_len] <;> omega) | fail) only [go_sem, ↓reduceIte, reduceCtorEq, Nat.reduceEqDiff, Nat.reduceAdd, Nat.reduceMul, Nat.reduceSub, Nat.reduceLeDiff, Int.reduceEq, Int.reduceLT, Int.reduceLE, Int.reduceAdd, Int.reduceSub, Int.reduceMul, Int.reduceNeg, Int.reduceToNat, h1]
    refine WGd_bool (fun h2 => ?_) (fun h2 => ?_)
    · simp (config := { failIfUnchanged := false }) (disch := first | omega | (simp [wcs_len] <;> omega) | fail) only [go_sem, ↓reduceIte, reduceCtorEq, Nat.reduceEqDiff, Nat.reduceAdd, Nat.reduceMul, Nat.reduceSub, Nat.reduceLeDiff, Int.reduceEq, Int.reduceLT, Int.reduceLE, Int.reduceAdd, Int.reduceSub, Int.reduceMul, Int.reduceNeg, Int.reduceToNat, h1, h2]
      refine WGd_bool (fun h3 => ?_) (fun h3 => ?_)
      · simp (config := { failIfUnchanged := false }) (disch := first | omega | (simp [wcs_len] <;> omega) | fail) only [go_sem, ↓reduceIte, reduceCtorEq, Nat.reduceEqDiff, Nat.reduceAdd, Nat.reduceMul, Nat.reduceSub, Nat.reduceLeDiff, Int.reduceEq, Int.reduceLT, Int.reduceLE, Int.reduceAdd, Int.reduceSub, Int.reduceMul, Int.reduceNeg, Int.reduceToNat, h1, h2, h3]
        refine wcall (c70 _ _ hs.top) ?_
        simp (config := { failIfUnchanged := false }) (disch := first | omega | (simp [wcs_len] <;> omega) | fail) only [go_sem, ↓reduceIte, reduceCtorEq, Nat.reduceEqDiff, Nat.reduceAdd, Nat.reduceMul, Nat.reduceSub, Nat.reduceLeDiff, Int.reduceEq, Int.reduceLT, Int.reduceLE, Int.reduceAdd, Int.reduceSub, Int.reduceMul, Int.reduceNeg, Int.reduceToNat, h1, h2, h3]
        refine wcond_dec (fun h4 => ?_) (fun h4 => ?_)
        · simp (config := { failIfUnchanged := false }) (disch := first | omega | (simp [wcs_len] <;> omega) | fail) only [go_sem, ↓reduceIte, reduceCtorEq, Nat.reduceEqDiff, Nat.reduceAdd, Nat.reduceMul, Nat.reduceSub, Nat.reduceLeDiff, Int.reduceEq, Int.reduceLT, Int.reduceLE, Int.reduceAdd, Int.reduceSub, Int.reduceMul, Int.reduceNeg, Int.reduceToNat]
          have : a ≠ b := fun e => by subst e; simp at h4
          simp [this]
        · simp (config := { failIfUnchanged := false }) (disch := first | omega | (simp [wcs_len] <;> omega) | fail) only [go_sem, ↓reduceIte, reduceCtorEq, Nat.reduceEqDiff, Nat.reduceAdd, Nat.reduceMul, Nat.reduceSub, Nat.reduceLeDiff, Int.reduceEq, Int.reduceLT, Int.reduceLE, Int.reduceAdd, Int.reduceSub, Int.reduceMul, Int.reduceNeg, Int.reduceToNat]
          have hb : a.base = b.base := by simpa using h1
          have hp : a.places = b.places := by simpa using h2
          have hl : a.cords.length = b.cords.length := by have : (a.cords.length : Int) = b.cords.length := by simpa using h3
                                                          omega
          have ht : a.top = b.top := by simpa using h4
          refine wp_loop' Nat (fun i => ⟨[(2, .ptr 2 0), (3, .ptr 3 0), (5, .int i)], [(3, ⟨[.int b.base, .int b.places, .sl 1 (b.cords.map SS) .sh, SS b.top], false⟩), (2, ⟨[.int a.base, .int a.places, .sl 1 (a.cords.map SS) .sh, SS a.top], false⟩)], [], none⟩) (fun i => i ≤ a.cords.length ∧ a.cords.take i = b.cords.take i) (fun i => a.cords.length - i) 0 (by simp) (by simp (config := { failIfUnchanged := false }) (disch := first | omega | (simp [wcs_len] <;> omega) | fail) only [go_sem, ↓reduceIte, reduceCtorEq, Nat.reduceEqDiff, Nat.reduceAdd, Nat.reduceMul, Nat.reduceSub, Nat.reduceLeDiff, Int.reduceEq, Int.reduceLT, Int.reduceLE, Int.reduceAdd, Int.reduceSub, Int.reduceMul, Int.reduceNeg, Int.reduceToNat]; simp) ?_
          rintro i ⟨hi, hpre⟩
          simp (config := { failIfUnchanged := false }) (disch := first | omega | (simp [wcs_len] <;> omega) | fail) only [go_sem, ↓reduceIte, reduceCtorEq, Nat.reduceEqDiff, Nat.reduceAdd, Nat.reduceMul, Nat.reduceSub, Nat.reduceLeDiff, Int.reduceEq, Int.reduceLT, Int.reduceLE, Int.reduceAdd, Int.reduceSub, Int.reduceMul, Int.reduceNeg, Int.reduceToNat]
          refine wcond_dec (fun h => ?_) (fun h => ?_)
          · have hlt : i < a.cords.length := by omega
            have hlt2 : i < b.cords.length := by omega
            simp (config := { failIfUnchanged := false }) (disch := first | omega | (simp [wcs_len] <;> omega) | fail) only [go_sem, ↓reduceIte, reduceCtorEq, Nat.reduceEqDiff, Nat.reduceAdd, Nat.reduceMul, Nat.reduceSub, Nat.reduceLeDiff, Int.reduceEq, Int.reduceLT, Int.reduceLE, Int.reduceAdd, Int.reduceSub, Int.reduceMul, Int.reduceNeg, Int.reduceToNat]
            refine wcall (c70 _ _ (hs.each _ (mem_getD hlt))) ?_
            simp (config := { failIfUnchanged := false }) (disch := first | omega | (simp [wcs_len] <;> omega) | fail) only [go_sem, ↓reduceIte, reduceCtorEq, Nat.reduceEqDiff, Nat.reduceAdd, Nat.reduceMul, Nat.reduceSub, Nat.reduceLeDiff, Int.reduceEq, Int.reduceLT, Int.reduceLE, Int.reduceAdd, Int.reduceSub, Int.reduceMul, Int.reduceNeg, Int.reduceToNat]
            refine wcond_dec (fun h5 => ?_) (fun h5 => ?_)
            · simp (config := { failIfUnchanged := false }) (disch := first | omega | (simp [wcs_len] <;> omega) | fail) only [go_sem, ↓reduceIte, reduceCtorEq, Nat.reduceEqDiff, Nat.reduceAdd, Nat.reduceMul, Nat.reduceSub, Nat.reduceLeDiff, Int.reduceEq, Int.reduceLT, Int.reduceLE, Int.reduceAdd, Int.reduceSub, Int.reduceMul, Int.reduceNeg, Int.reduceToNat]
              have : a ≠ b := fun e => by subst e; simp at h5
              simp [this]
            · simp (config := { failIfUnchanged := false }) (disch := first | omega | (simp [wcs_len] <;> omega) | fail) only [go_sem, ↓reduceIte, reduceCtorEq, Nat.reduceEqDiff, Nat.reduceAdd, Nat.reduceMul, Nat.reduceSub, Nat.reduceLeDiff, Int.reduceEq, Int.reduceLT, Int.reduceLE, Int.reduceAdd, Int.reduceSub, Int.reduceMul, Int.reduceNeg, Int.reduceToNat]
              refine ⟨i + 1, ⟨by omega, ?_⟩, by dsimp only; omega, ?_⟩
              · simp only [Decidable.not_not] at h5
                rw [List.take_add_one, List.take_add_one, hpre]
                rw [List.getElem?_eq_getElem hlt, List.getElem?_eq_getElem hlt2] at h5 ⊢
                simp only [Option.getD_some] at h5
                rw [h5]
              · simp (config := { failIfUnchanged := false }) (disch := first | omega | (simp [wcs_len] <;> omega) | fail) only [go_sem, ↓reduceIte, reduceCtorEq, Nat.reduceEqDiff, Nat.reduceAdd, Nat.reduceMul, Nat.reduceSub, Nat.reduceLeDiff, Int.reduceEq, Int.reduceLT, Int.reduceLE, Int.reduceAdd, Int.reduceSub, Int.reduceMul, Int.reduceNeg, Int.reduceToNat]
                simp
          · simp (config := { failIfUnchanged := false }) (disch := first | omega | (simp [wcs_len] <;> omega) | fail) only [go_sem, ↓reduceIte, reduceCtorEq, Nat.reduceEqDiff, Nat.reduceAdd, Nat.reduceMul, Nat.reduceSub, Nat.reduceLeDiff, Int.reduceEq, Int.reduceLT, Int.reduceLE, Int.reduceAdd, Int.reduceSub, Int.reduceMul, Int.reduceNeg, Int.reduceToNat]
            have e : i = a.cords.length := by omega
            have : a = b := by
              rw [e, List.take_length, hl, List.take_length] at hpre
              obtain ⟨x1, x2, x3, x4⟩ := a
              obtain ⟨y1, y2, y3, y4⟩ := b
              simp_all
            simp [this]
      · simp (config := { failIfUnchanged := false }) (disch := first | omega | (simp [wcs_len] <;> omega) | fail) only [go_sem, ↓reduceIte, reduceCtorEq, Nat.reduceEqDiff, Nat.reduceAdd, Nat.reduceMul, Nat.reduceSub, Nat.reduceLeDiff, Int.reduceEq, Int.reduceLT, Int.reduceLE, Int.reduceAdd, Int.reduceSub, Int.reduceMul, Int.reduceNeg, Int.reduceToNat, h1, h2, h3]
        have : a ≠ b := fun e => by subst e; simp at h3
        simp [this]
    · simp (config := { failIfUnchanged := false }) (disch := first | omega | (simp [wcs_len] <;> omega) | fail) only [go_sem, ↓reduceIte, reduceCtorEq, Nat.reduceEqDiff, Nat.reduceAdd, Nat.reduceMul, Nat.reduceSub, Nat.reduceLeDiff, Int.reduceEq, Int.reduceLT, Int.reduceLE, Int.reduceAdd, Int.reduceSub, Int.reduceMul, Int.reduceNeg, Int.reduceToNat, h1, h2]
      have : a ≠ b := fun e => by subst e; simp at h2
      simp [this]
  · simp (config := { failIfUnchanged := false }) (disch := first | omega | (simp [wcs_len] <;> omega) | fail) only [go_sem, ↓reduceIte, reduceCtorEq, Nat.reduceEqDiff, Nat.reduceAdd, Nat.reduceMul, Nat.reduceSub, Nat.reduceLeDiff, Int.reduceEq, Int.reduceLT, Int.reduceLE, Int.reduceAdd, Int.reduceSub, Int.reduceMul, Int.reduceNeg, Int.reduceToNat, h1]
    have : a ≠ b := fun e => by subst e; simp at h1
    simp [this]

theorem ag25' : aggOf Try.prog 25 = some true := by kernel_rfl
theorem sz25' : szOf Try.prog 25 = some 4 := by kernel_rfl

attribute [go_sem] ag25' sz25'

theorem c18 (b : Bk) (h1 : b.cords.length ≤ 1000000) (h2 : b.top.length ≤ 1000000) (h3 : ∀ l ∈ b.cords, l.length ≤ 1000000) : Ctr Try.prog 18 [KB b] (KB b) := by
  refine ctr_of_wp hmix Try.func18 m18 rfl ?_
  unfold v18
  simp (config := { failIfUnchanged := false }) (disch := first | omega | (simp [wcs_len] <;> omega) | fail) only [go_sem, ↓reduceIte, reduceCtorEq, Nat.reduceEqDiff, Nat.reduceAdd, Nat.reduceMul, Nat.reduceSub, Nat.reduceLeDiff, Int.reduceEq, Int.reduceLT, Int.reduceLE, Int.reduceAdd, Int.reduceSub, Int.reduceMul, Int.reduceNeg, Int.reduceToNat]
  refine wp_loop' (Nat × AV × List (Nat × Nat)) (fun x => ⟨[(1, .ptr 1 0), (2, .ptr 2 0), (3, .ptr 3 0), (4, .int x.1)],
    [(3, ⟨[.int b.base, .int b.places, x.2.1, SS b.top], false⟩), (2, ⟨[.int 0, .int 0, .sl 1 [] .full, .sl 2 [] .full], false⟩), (1, ⟨[.int b.base, .int b.places, .sl 1 (b.cords.map SS) .sh, SS b.top], false⟩)], x.2.2, none⟩)
    (fun x => x.1 ≤ b.cords.length ∧ ((x.1 = 0 ∧ x.2.1 = .sl 1 [] .full ∧ x.2.2 = []) ∨ (0 < x.1 ∧ x.2.1 = .sl 1 ((b.cords.take x.1).map SS) (.own 31) ∧ x.2.2 = [(31, x.1)]))) (fun x => b.cords.length - x.1) (0, .sl 1 [] .full, []) (by simp) (by simp (config := { failIfUnchanged := false }) (disch := first | omega | (simp [wcs_len] <;> omega) | fail) only [go_sem, ↓reduceIte, reduceCtorEq, Nat.reduceEqDiff, Nat.reduceAdd, Nat.reduceMul, Nat.reduceSub, Nat.reduceLeDiff, Int.reduceEq, Int.reduceLT, Int.reduceLE, Int.reduceAdd, Int.reduceSub, Int.reduceMul, Int.reduceNeg, Int.reduceToNat]; simp) ?_
  rintro ⟨i, sl, tk⟩ ⟨hi, hst⟩
  dsimp only at hi hst ⊢
  have hout : ∀ (m : VM), i = b.cords.length → AV.sl 1 ((b.cords.take i).map SS) .sh = .sl 1 (b.cords.map SS) .sh := by
    intro _ e
    rw [e, List.take_length]
  have htk : i < b.cords.length → (b.cords.take (i + 1)).map SS = (b.cords.take i).map SS ++ [SS (b.cords[i]?.getD default)] := by
    intro h
    rw [List.take_add_one, List.getElem?_eq_getElem h, List.map_append]
    rfl
  rcases hst with ⟨h0, rfl, rfl⟩ | ⟨h0, rfl, rfl⟩
  · subst h0
    simp (config := { failIfUnchanged := false }) (disch := first | omega | (simp [wcs_len] <;> omega) | fail) only [go_sem, ↓reduceIte, reduceCtorEq, Nat.reduceEqDiff, Nat.reduceAdd, Nat.reduceMul, Nat.reduceSub, Nat.reduceLeDiff, Int.reduceEq, Int.reduceLT, Int.reduceLE, Int.reduceAdd, Int.reduceSub, Int.reduceMul, Int.reduceNeg, Int.reduceToNat]
    refine wcond_dec (fun h => ?_) (fun h => ?_)
    · have hlt : 0 < b.cords.length := by omega
      have h3' := h3 _ (mem_getD hlt)
      simp (config := { failIfUnchanged := false }) (disch := first | omega | (simp [wcs_len] <;> omega) | fail) only [go_sem, ↓reduceIte, reduceCtorEq, Nat.reduceEqDiff, Nat.reduceAdd, Nat.reduceMul, Nat.reduceSub, Nat.reduceLeDiff, Int.reduceEq, Int.reduceLT, Int.reduceLE, Int.reduceAdd, Int.reduceSub, Int.reduceMul, Int.reduceNeg, Int.reduceToNat]
      refine ⟨(1, .sl 1 ((b.cords.take 1).map SS) (.own 31), [(31, 1)]), ⟨by dsimp only; omega, .inr ⟨by simp, rfl, rfl⟩⟩, by dsimp only; omega, ?_⟩
      have := htk hlt
      simp only [List.take_zero, List.map_nil, List.nil_append, Nat.zero_add] at this
      rw [this]
      simp (config := { failIfUnchanged := false }) (disch := first | omega | (simp [wcs_len] <;> omega) | fail) only [go_sem, ↓reduceIte, reduceCtorEq, Nat.reduceEqDiff, Nat.reduceAdd, Nat.reduceMul, Nat.reduceSub, Nat.reduceLeDiff, Int.reduceEq, Int.reduceLT, Int.reduceLE, Int.reduceAdd, Int.reduceSub, Int.reduceMul, Int.reduceNeg, Int.reduceToNat]
      simp
    · simp (config := { failIfUnchanged := false }) (disch := first | omega | (simp [wcs_len] <;> omega) | fail) only [go_sem, ↓reduceIte, reduceCtorEq, Nat.reduceEqDiff, Nat.reduceAdd, Nat.reduceMul, Nat.reduceSub, Nat.reduceLeDiff, Int.reduceEq, Int.reduceLT, Int.reduceLE, Int.reduceAdd, Int.reduceSub, Int.reduceMul, Int.reduceNeg, Int.reduceToNat]
      have e : b.cords.length = 0 := by omega
      have e2 : b.cords = [] := List.eq_nil_of_length_eq_zero e
      simp [e2]
  · simp (config := { failIfUnchanged := false }) (disch := first | omega | (simp [wcs_len] <;> omega) | fail) only [go_sem, ↓reduceIte, reduceCtorEq, Nat.reduceEqDiff, Nat.reduceAdd, Nat.reduceMul, Nat.reduceSub, Nat.reduceLeDiff, Int.reduceEq, Int.reduceLT, Int.reduceLE, Int.reduceAdd, Int.reduceSub, Int.reduceMul, Int.reduceNeg, Int.reduceToNat]
    refine wcond_dec (fun h => ?_) (fun h => ?_)
    · have hlt : i < b.cords.length := by omega
      have h3' := h3 _ (mem_getD hlt)
      have hmin : min i b.cords.length = i := by omega
      simp (config := { failIfUnchanged := false }) (disch := first | omega | (simp [wcs_len] <;> omega) | fail) only [go_sem, ↓reduceIte, reduceCtorEq, Nat.reduceEqDiff, Nat.reduceAdd, Nat.reduceMul, Nat.reduceSub, Nat.reduceLeDiff, Int.reduceEq, Int.reduceLT, Int.reduceLE, Int.reduceAdd, Int.reduceSub, Int.reduceMul, Int.reduceNeg, Int.reduceToNat]
      refine ⟨by rw [List.length_take, hmin], ?_⟩
      rw [List.length_take, hmin]
      refine ⟨(i + 1, .sl 1 ((b.cords.take (i + 1)).map SS) (.own 31), [(31, i + 1)]), ⟨by dsimp only; omega, .inr ⟨by simp, rfl, rfl⟩⟩, by dsimp only; omega, ?_⟩
      rw [htk hlt]
      simp (config := { failIfUnchanged := false }) (disch := first | omega | (simp [wcs_len] <;> omega) | fail) only [go_sem, ↓reduceIte, reduceCtorEq, Nat.reduceEqDiff, Nat.reduceAdd, Nat.reduceMul, Nat.reduceSub, Nat.reduceLeDiff, Int.reduceEq, Int.reduceLT, Int.reduceLE, Int.reduceAdd, Int.reduceSub, Int.reduceMul, Int.reduceNeg, Int.reduceToNat]
      simp
    · simp (config := { failIfUnchanged := false }) (disch := first | omega | (simp [wcs_len] <;> omega) | fail) only [go_sem, ↓reduceIte, reduceCtorEq, Nat.reduceEqDiff, Nat.reduceAdd, Nat.reduceMul, Nat.reduceSub, Nat.reduceLeDiff, Int.reduceEq, Int.reduceLT, Int.reduceLE, Int.reduceAdd, Int.reduceSub, Int.reduceMul, Int.reduceNeg, Int.reduceToNat]
      have e : i = b.cords.length := by omega
      rw [e, List.take_length]

end Go.Proofs.Ytkkiipjfbebipaa

/- Small laws that several of the texts behind use. -/
set_option linter.unusedSimpArgs false
set_option linter.unusedVariables false
set_option linter.unnecessarySimpa false
namespace Go.Proofs.Ytkkiipjfbebipaa
open Go Go.V

theorem allOK_iff (b : Bk) (may : Nat → Nat → Nat → Bool) (carry : Nat → Nat → Bool) (l : List Nat) : allOK b may carry l = true ↔ ∀ p, p < b.places.toNat → (∀ c, c < b.cords.length + 1 → may c p (dgN b l c p) = true) ∧ carry p (carN b l p) = true := by
  unfold allOK
  simp only [List.all_eq_true, List.mem_range, Bool.and_eq_true]

theorem allOK_only {b : Bk} {may : Nat → Nat → Nat → Bool} {carry : Nat → Nat → Bool} {c p d : Nat} (hc : c ≤ b.cords.length) (hp : p < b.places.toNat) (l : List Nat) :
    allOK b (onlyF may c p d) carry l = (allOK b may carry l && decide (dgN b l c p = d)) := by
  rw [Bool.eq_iff_iff, Bool.and_eq_true, allOK_iff, allOK_iff, decide_eq_true_eq]
  constructor
  · intro h
    refine ⟨fun q hq => ⟨fun e he => ?_, (h q hq).2⟩, ?_⟩
    · have := (h q hq).1 e he
      simp only [onlyF, Bool.and_eq_true] at this
      exact this.1
    · have := (h p hp).1 c (by omega)
      simp only [onlyF, Bool.and_eq_true, Bool.or_eq_true, decide_eq_true_eq] at this
      rcases this.2 with h | h | h
      · exact absurd trivial h
      · exact absurd trivial h
      · exact h
  · rintro ⟨h, h2⟩ q hq
    refine ⟨fun e he => ?_, (h q hq).2⟩
    simp only [onlyF, Bool.and_eq_true, (h q hq).1 e he, true_and, Bool.or_eq_true, decide_eq_true_eq]
    by_cases e1 : e = c
    · by_cases e2 : q = p
      · subst e1 e2; exact .inr (.inr h2)
      · exact .inr (.inl e2)
    · exact .inl e1

theorem allOK_yes (b : Bk) (l : List Nat) : allOK b yes3 yes2 l = true := by
  rw [allOK_iff]
  exact fun _ _ => ⟨fun _ _ => rfl, rfl⟩

theorem take_snoc {α : Type} [Inhabited α] {l : List α} {k : Nat} (h : k < l.length) : l.take (k + 1) = l.take k ++ [l[k]?.getD default] := by
  rw [List.take_add_one, List.getElem?_eq_getElem h]
  rfl

theorem many_len {b : Bk} (hv : Val b) : (solveL b yes3 yes2).r = (allNs b).length := by
  rw [solveL_r hv, ← sumF_len]
  congr 1
  exact sumF_congr fun l _ => by rw [allOK_yes]; rfl

end Go.Proofs.Ytkkiipjfbebipaa

/- The reference's Cord; KnotsTie. -/
set_option linter.unusedSimpArgs false
set_option linter.unusedVariables false
set_option linter.unnecessarySimpa false
namespace Go.Proofs.Ytkkiipjfbebipaa
open Go Go.V

theorem numL2 (base : Int) (l : List Int) (x : Int) : numL base (l ++ [x]) = numL base [numL base l, x] := by
  unfold numL
  rw [List.foldl_append]
  simp only [List.foldl_cons, List.foldl_nil, Int.zero_mul, Int.zero_add]
  generalize List.foldl (fun n d => w64 (w64 (n * base) + d)) 0 l = y
  have : ∀ z : Int, w64 (w64 (w64 (w64 0 + z) * base) + x) = w64 (w64 (z * base) + x) := by
    intro z
    have h0 : w64 0 = 0 := by decide
    rw [h0, Int.zero_add]
    have e1 : w64 (w64 z * base) = w64 (z * base) := by
      have h1 : ∀ a b : Int, a % 18446744073709551616 = b % 18446744073709551616 → w64 a = w64 b := by
        intro a b h
        rw [w64_eq, w64_eq, h]
      apply h1
      have h2 : ∀ a : Int, w64 a % 18446744073709551616 = a % 18446744073709551616 := by
        intro a
        rw [w64_eq]
        simp only [Bool.true_and, decide_eq_true_eq]
        split <;> omega
      rw [Int.mul_emod, h2, ← Int.mul_emod]
    rw [e1]
  exact (this y).symm

/-- The ends of a cord by the lists of its least and of its greatest digits. -/
theorem ends_num (base : Int) (l : List Sp) : endsL base l = ⟨numL base (l.map fun s => s.lo), numL base (l.map fun s => s.hi)⟩ := by
  have key : ∀ (l : List Sp) (a b : List Int), l.foldl (fun o s => (⟨numL base [o.lo, s.lo], numL base [o.hi, s.hi]⟩ : Sp)) ⟨numL base a, numL base b⟩ = ⟨numL base (a ++ l.map fun s => s.lo), numL base (b ++ l.map fun s => s.hi)⟩ := by
    intro l
    induction l with
    | nil => intro a b; simp
    | cons s r ih =>
      intro a b
      simp only [List.foldl_cons]
      rw [← numL2, ← numL2, ih]
      simp
  have := key l [] []
  simpa [endsL, numL] using this

theorem c54 (b : Bk) (hs : Small b) (c : Int) : Ctr Try.prog 54 [KB b, .int c]
    (if checkB b then
      if within c 0 b.cords.length then .tup [SP (endsL b.base (cordAt b c.toNat)), .int 0] else .tup [SP ⟨0, 0⟩, .int 1]
    else .tup [SP ⟨0, 0⟩, .int 110]) := by
  refine ctr_of_wp hmix Try.func54 m54 rfl ?_
  unfold v54
  simp (config := { failIfUnchanged := false }) (disch := first | omega | (simp [wcs_len] <;> omega) | fail) only [go_sem, ↓reduceIte, reduceCtorEq, Nat.reduceEqDiff, Nat.reduceAdd, Nat.reduceMul, Nat.reduceSub, Nat.reduceLeDiff, Int.reduceEq, Int.reduceLT, Int.reduceLE, Int.reduceAdd, Int.reduceSub, Int.reduceMul, Int.reduceNeg, Int.reduceToNat]
  refine wcall (c29 b c) ?_
  simp (config := { failIfUnchanged := false }) (disch := first | omega | (simp [wcs_len] <;> omega) | fail) only [go_sem, ↓reduceIte, reduceCtorEq, Nat.reduceEqDiff, Nat.reduceAdd, Nat.reduceMul, Nat.reduceSub, Nat.reduceLeDiff, Int.reduceEq, Int.reduceLT, Int.reduceLE, Int.reduceAdd, Int.reduceSub, Int.reduceMul, Int.reduceNeg, Int.reduceToNat]
  refine wcall (c95 b hs _) ?_
  cases hc : checkB b with
  | false => simp (config := { failIfUnchanged := false }) (disch := first | omega | (simp [wcs_len] <;> omega) | fail) only [go_sem, ↓reduceIte, reduceCtorEq, Nat.reduceEqDiff, Nat.reduceAdd, Nat.reduceMul, Nat.reduceSub, Nat.reduceLeDiff, Int.reduceEq, Int.reduceLT, Int.reduceLE, Int.reduceAdd, Int.reduceSub, Int.reduceMul, Int.reduceNeg, Int.reduceToNat]
  | true =>
    cases h1 : within c 0 b.cords.length with
    | false => simp (config := { failIfUnchanged := false }) (disch := first | omega | (simp [wcs_len] <;> omega) | fail) only [go_sem, ↓reduceIte, reduceCtorEq, Nat.reduceEqDiff, Nat.reduceAdd, Nat.reduceMul, Nat.reduceSub, Nat.reduceLeDiff, Int.reduceEq, Int.reduceLT, Int.reduceLE, Int.reduceAdd, Int.reduceSub, Int.reduceMul, Int.reduceNeg, Int.reduceToNat]
    | true =>
      have hv := val_of_check hc
      have h1' : 0 ≤ c ∧ c ≤ b.cords.length := by simpa [within] using h1
      obtain ⟨m, rfl⟩ : ∃ m : Nat, c = m := ⟨c.toNat, by omega⟩
      have hp := hv.hp
      have hlen := (cordAt_val hv (n := m) (by omega)).1
      simp (config := { failIfUnchanged := false }) (disch := first | omega | (simp [wcs_len] <;> omega) | fail) only [go_sem, ↓reduceIte, reduceCtorEq, Nat.reduceEqDiff, Nat.reduceAdd, Nat.reduceMul, Nat.reduceSub, Nat.reduceLeDiff, Int.reduceEq, Int.reduceLT, Int.reduceLE, Int.reduceAdd, Int.reduceSub, Int.reduceMul, Int.reduceNeg, Int.reduceToNat]
      refine wcall (c32 b m (by omega)) ?_
      rw [ends_num]
      generalize cordAt b m = l at hlen
      simp (config := { failIfUnchanged := false }) (disch := first | omega | (simp [wcs_len] <;> omega) | fail) only [go_sem, ↓reduceIte, reduceCtorEq, Nat.reduceEqDiff, Nat.reduceAdd, Nat.reduceMul, Nat.reduceSub, Nat.reduceLeDiff, Int.reduceEq, Int.reduceLT, Int.reduceLE, Int.reduceAdd, Int.reduceSub, Int.reduceMul, Int.reduceNeg, Int.reduceToNat]
      refine wp_loop' Nat (fun i => ⟨[(2, .ptr 2 0), (4, .ptr 4 0), (7, SS l), (8, .sl 1 (((l.take i).map fun s => s.lo).map .int) (.own 8)), (9, .sl 1 (((l.take i).map fun s => s.hi).map .int) (.own 9)), (10, .int i)],
        [(4, ⟨[.int 0, .int 0], false⟩), (2, ⟨[.int b.base, .int b.places, .sl 1 (b.cords.map SS) .sh, SS b.top], false⟩)], [(9, i), (8, i)], none⟩) (fun i => i ≤ l.length) (fun i => l.length - i) 0 (by simp) (by simp (config := { failIfUnchanged := false }) (disch := first | omega | (simp [wcs_len] <;> omega) | fail) only [go_sem, ↓reduceIte, reduceCtorEq, Nat.reduceEqDiff, Nat.reduceAdd, Nat.reduceMul, Nat.reduceSub, Nat.reduceLeDiff, Int.reduceEq, Int.reduceLT, Int.reduceLE, Int.reduceAdd, Int.reduceSub, Int.reduceMul, Int.reduceNeg, Int.reduceToNat]; simp) ?_
      intro i hi
      have hmin : min i l.length = i := by omega
      simp (config := { failIfUnchanged := false }) (disch := first | omega | (simp [wcs_len] <;> omega) | fail) only [go_sem, ↓reduceIte, reduceCtorEq, Nat.reduceEqDiff, Nat.reduceAdd, Nat.reduceMul, Nat.reduceSub, Nat.reduceLeDiff, Int.reduceEq, Int.reduceLT, Int.reduceLE, Int.reduceAdd, Int.reduceSub, Int.reduceMul, Int.reduceNeg, Int.reduceToNat]
      refine wcond_dec (fun h => ?_) (fun h => ?_)
      · have hlt : i < l.length := by omega
        obtain ⟨s, hsp⟩ : ∃ s, l[i]?.getD default = s := ⟨_, rfl⟩
        have et : l.take (i + 1) = l.take i ++ [s] := by
          rw [List.take_add_one, List.getElem?_eq_getElem hlt, ← hsp]
          simp [hlt]
        have hl1 : (l.take i).length = i := by rw [List.length_take]; exact hmin
        generalize hx : l.take i = xs at hl1
        simp (config := { failIfUnchanged := false }) (disch := first | omega | (simp [wcs_len] <;> omega) | fail) only [go_sem, ↓reduceIte, reduceCtorEq, Nat.reduceEqDiff, Nat.reduceAdd, Nat.reduceMul, Nat.reduceSub, Nat.reduceLeDiff, Int.reduceEq, Int.reduceLT, Int.reduceLE, Int.reduceAdd, Int.reduceSub, Int.reduceMul, Int.reduceNeg, Int.reduceToNat, hsp]
        refine ⟨hl1.symm, hl1.symm, ?_⟩
        refine ⟨i + 1, by omega, by dsimp only; omega, ?_⟩
        dsimp only
        rw [et]
        simp (config := { failIfUnchanged := false }) (disch := first | omega | (simp [wcs_len] <;> omega) | fail) only [go_sem, ↓reduceIte, reduceCtorEq, Nat.reduceEqDiff, Nat.reduceAdd, Nat.reduceMul, Nat.reduceSub, Nat.reduceLeDiff, Int.reduceEq, Int.reduceLT, Int.reduceLE, Int.reduceAdd, Int.reduceSub, Int.reduceMul, Int.reduceNeg, Int.reduceToNat]
        simp [← hx, List.map_take, hmin]
      · simp (config := { failIfUnchanged := false }) (disch := first | omega | (simp [wcs_len] <;> omega) | fail) only [go_sem, ↓reduceIte, reduceCtorEq, Nat.reduceEqDiff, Nat.reduceAdd, Nat.reduceMul, Nat.reduceSub, Nat.reduceLeDiff, Int.reduceEq, Int.reduceLT, Int.reduceLE, Int.reduceAdd, Int.reduceSub, Int.reduceMul, Int.reduceNeg, Int.reduceToNat]
        have e : i = l.length := by omega
        subst e
        rw [List.take_length]
        refine wcall (c46 b (l.map fun s => s.lo) (by simp; omega)) ?_
        simp (config := { failIfUnchanged := false }) (disch := first | omega | (simp [wcs_len] <;> omega) | fail) only [go_sem, ↓reduceIte, reduceCtorEq, Nat.reduceEqDiff, Nat.reduceAdd, Nat.reduceMul, Nat.reduceSub, Nat.reduceLeDiff, Int.reduceEq, Int.reduceLT, Int.reduceLE, Int.reduceAdd, Int.reduceSub, Int.reduceMul, Int.reduceNeg, Int.reduceToNat]
        refine wcall (c46 b (l.map fun s => s.hi) (by simp; omega)) ?_
        simp (config := { failIfUnchanged := false }) (disch := first | omega | (simp [wcs_len] <;> omega) | fail) only [go_sem, ↓reduceIte, reduceCtorEq, Nat.reduceEqDiff, Nat.reduceAdd, Nat.reduceMul, Nat.reduceSub, Nat.reduceLeDiff, Int.reduceEq, Int.reduceLT, Int.reduceLE, Int.reduceAdd, Int.reduceSub, Int.reduceMul, Int.reduceNeg, Int.reduceToNat]

end Go.Proofs.Ytkkiipjfbebipaa

/- KnotsTie. -/
set_option linter.unusedSimpArgs false
set_option linter.unusedVariables false
set_option linter.unnecessarySimpa false
namespace Go.Proofs.Ytkkiipjfbebipaa
open Go Go.V

theorem allC_at {b : Bk} (c : Nat) (h : c ≤ b.cords.length) : (allC b)[c]?.getD default = cordAt b c := by
  unfold allC cordAt
  split
  · next e => subst e; simp
  · next e =>
    rw [List.getElem?_append_left (by omega)]

def tieR (b : Bk) (n : Int) : List Int × Int := if checkB b then if within n 0 ((allN b : Int) - 1) then (tieN b.base.toNat b.places.toNat n.toNat, 0) else ([], 1) else ([], 110)
def readR (b : Bk) (l : List Int) : Int × Int := if checkB b then if areDig b l then (numL b.base l, 0) else (0, 1) else (0, 110)
def cordR (b : Bk) (c : Int) : Sp × Int := if checkB b then if within c 0 b.cords.length then (endsL b.base (cordAt b c.toNat), 0) else (⟨0, 0⟩, 1) else (⟨0, 0⟩, 110)

theorem tieR_len (b : Bk) (n : Int) : (tieR b n).1.length < 4294967296 := by
  unfold tieR
  cases hc : checkB b with
  | false => simp
  | true =>
    obtain ⟨hp1, hp2⟩ := (val_of_check hc).hp
    cases hw : within n 0 ((allN b : Int) - 1) with
    | false => simp
    | true =>
      simp only [if_true, tieN_len]
      omega

theorem c51r (b : Bk) (hs : Small b) (n : Int) : Ctr Try.prog 51 [KB b, .int n] (.tup [IS (tieR b n).1, .int (tieR b n).2]) := by
  have := c51 b hs n
  unfold tieR
  cases hc : checkB b with
  | false => simpa [hc] using this
  | true =>
    cases hw : within n 0 ((allN b : Int) - 1) with
    | false => simpa [hc, hw] using this
    | true => simpa [hc, hw] using this

theorem c42r (b : Bk) (hs : Small b) (n : Int) : Ctr Try.prog 42 [KB b, .int n] (.tup [IS (tieR b n).1, .int (tieR b n).2]) := by
  have := c42t b hs n
  unfold tieR
  cases hc : checkB b with
  | false => simpa [hc, IS] using this
  | true =>
    have hv := val_of_check hc
    obtain ⟨hp1, hp2⟩ := hv.hp
    have hall := allN_le hv
    have e : w64 (mostT b (min 4 (max 0 b.places)).toNat - 1) = (allN b : Int) - 1 := by
      have : (min 4 (max 0 b.places)).toNat = b.places.toNat := by omega
      rw [this, (mostT_eq hv.hb _ (by omega)).1]
      have : allN b = b.base.toNat ^ b.places.toNat := rfl
      rw [← this, w64_id] <;> omega
    rw [e] at this
    cases hw : within n 0 ((allN b : Int) - 1) with
    | false => simpa [hc, hw, IS] using this
    | true => simpa [hc, hw, IS] using this

theorem c52r (b : Bk) (hs : Small b) (l : List Int) (hl : l.length < 4294967296) : Ctr Try.prog 52 [KB b, IS l] (.tup [.int (readR b l).1, .int (readR b l).2]) := by
  have := c52 b hs l hl
  unfold readR
  cases hc : checkB b with
  | false => simpa [hc] using this
  | true =>
    cases hw : areDig b l with
    | false => simpa [hc, hw] using this
    | true => simpa [hc, hw] using this

theorem c45r (b : Bk) (hs : Small b) (l : List Int) (hl : l.length < 4294967296) : Ctr Try.prog 45 [KB b, IS l] (.tup [.int (readR b l).1, .int (readR b l).2]) := by
  have := c45 b hs l hl
  have e : (decide ((l.length : Int) = b.places) && !l.any (fun d => !within d 0 (w64 (b.base - 1)))) = areDig b l := rfl
  rw [e] at this
  unfold readR
  cases hc : checkB b with
  | false => simpa [hc] using this
  | true =>
    cases hw : areDig b l with
    | false => simpa [hc, hw] using this
    | true => simpa [hc, hw] using this

theorem c54r (b : Bk) (hs : Small b) (c : Int) : Ctr Try.prog 54 [KB b, .int c] (.tup [SP (cordR b c).1, .int (cordR b c).2]) := by
  have := c54 b hs c
  unfold cordR
  cases hc : checkB b with
  | false => simpa [hc] using this
  | true =>
    cases hw : within c 0 b.cords.length with
    | false => simpa [hc, hw] using this
    | true => simpa [hc, hw] using this

theorem c53r (b : Bk) (hs : Small b) (c : Int) : Ctr Try.prog 53 [KB b, .int c] (.tup [SP (cordR b c).1, .int (cordR b c).2]) := by
  have := c53 b hs c
  unfold cordR
  cases hc : checkB b with
  | false => simpa [hc] using this
  | true =>
    cases hw : within c 0 b.cords.length with
    | false => simpa [hc, hw] using this
    | true =>
      have hw' : 0 ≤ c ∧ c ≤ b.cords.length := by simpa [within] using hw
      rw [allC_at _ (by omega)] at this
      simpa [hc, hw] using this

theorem c12 (b : Bk) (h1 : b.cords.length < 9223372036854775808) (n c p : Int) (l : List Int) (hl : l.length < 9223372036854775808) :
    Ctr Try.prog 12 [KB b, .agg [.int n, .int c, .int p], IS l] (.bool true) := by
  refine ctr_of_wp hmix Try.func12 m12 rfl ?_
  unfold v12
  simp (config := { failIfUnchanged := false }) (disch := first | omega | (simp [wcs_len] <;> omega) | fail) only [go_sem, ↓reduceIte, reduceCtorEq, Nat.reduceEqDiff, Nat.reduceAdd, Nat.reduceMul, Nat.reduceSub, Nat.reduceLeDiff, Int.reduceEq, Int.reduceLT, Int.reduceLE, Int.reduceAdd, Int.reduceSub, Int.reduceMul, Int.reduceNeg, Int.reduceToNat]
  refine wcall (c48 b h1) ?_
  cases hh : hugeB b with
  | true =>
    simp (config := { failIfUnchanged := false }) (disch := first | omega | (simp [wcs_len] <;> omega) | fail) only [go_sem, ↓reduceIte, reduceCtorEq, Nat.reduceEqDiff, Nat.reduceAdd, Nat.reduceMul, Nat.reduceSub, Nat.reduceLeDiff, Int.reduceEq, Int.reduceLT, Int.reduceLE, Int.reduceAdd, Int.reduceSub, Int.reduceMul, Int.reduceNeg, Int.reduceToNat]
    refine wcall c17 ?_
    simp (config := { failIfUnchanged := false }) (disch := first | omega | (simp [wcs_len] <;> omega) | fail) only [go_sem, ↓reduceIte, reduceCtorEq, Nat.reduceEqDiff, Nat.reduceAdd, Nat.reduceMul, Nat.reduceSub, Nat.reduceLeDiff, Int.reduceEq, Int.reduceLT, Int.reduceLE, Int.reduceAdd, Int.reduceSub, Int.reduceMul, Int.reduceNeg, Int.reduceToNat]
  | false =>
    have hs := small_small hh
    obtain ⟨k1, k2, k3⟩ := small_of_huge hh
    simp (config := { failIfUnchanged := false }) (disch := first | omega | (simp [wcs_len] <;> omega) | fail) only [go_sem, ↓reduceIte, reduceCtorEq, Nat.reduceEqDiff, Nat.reduceAdd, Nat.reduceMul, Nat.reduceSub, Nat.reduceLeDiff, Int.reduceEq, Int.reduceLT, Int.reduceLE, Int.reduceAdd, Int.reduceSub, Int.reduceMul, Int.reduceNeg, Int.reduceToNat]
    refine wcond_dec (fun h => ?_) (fun h => ?_)
    · simp (config := { failIfUnchanged := false }) (disch := first | omega | (simp [wcs_len] <;> omega) | fail) only [go_sem, ↓reduceIte, reduceCtorEq, Nat.reduceEqDiff, Nat.reduceAdd, Nat.reduceMul, Nat.reduceSub, Nat.reduceLeDiff, Int.reduceEq, Int.reduceLT, Int.reduceLE, Int.reduceAdd, Int.reduceSub, Int.reduceMul, Int.reduceNeg, Int.reduceToNat]
      refine wcall c17 ?_
      simp (config := { failIfUnchanged := false }) (disch := first | omega | (simp [wcs_len] <;> omega) | fail) only [go_sem, ↓reduceIte, reduceCtorEq, Nat.reduceEqDiff, Nat.reduceAdd, Nat.reduceMul, Nat.reduceSub, Nat.reduceLeDiff, Int.reduceEq, Int.reduceLT, Int.reduceLE, Int.reduceAdd, Int.reduceSub, Int.reduceMul, Int.reduceNeg, Int.reduceToNat]
    · have hl40 : l.length ≤ 40 := by omega
      simp (config := { failIfUnchanged := false }) (disch := first | omega | (simp [wcs_len] <;> omega) | fail) only [go_sem, ↓reduceIte, reduceCtorEq, Nat.reduceEqDiff, Nat.reduceAdd, Nat.reduceMul, Nat.reduceSub, Nat.reduceLeDiff, Int.reduceEq, Int.reduceLT, Int.reduceLE, Int.reduceAdd, Int.reduceSub, Int.reduceMul, Int.reduceNeg, Int.reduceToNat]
      refine wcall (c18 b (by omega) (by omega) (fun x hx => by have := k3 x hx; omega)) ?_
      simp (config := { failIfUnchanged := false }) (disch := first | omega | (simp [wcs_len] <;> omega) | fail) only [go_sem, ↓reduceIte, reduceCtorEq, Nat.reduceEqDiff, Nat.reduceAdd, Nat.reduceMul, Nat.reduceSub, Nat.reduceLeDiff, Int.reduceEq, Int.reduceLT, Int.reduceLE, Int.reduceAdd, Int.reduceSub, Int.reduceMul, Int.reduceNeg, Int.reduceToNat]
      refine wcall (c49 b hs) ?_
      simp (config := { failIfUnchanged := false }) (disch := first | omega | (simp [wcs_len] <;> omega) | fail) only [go_sem, ↓reduceIte, reduceCtorEq, Nat.reduceEqDiff, Nat.reduceAdd, Nat.reduceMul, Nat.reduceSub, Nat.reduceLeDiff, Int.reduceEq, Int.reduceLT, Int.reduceLE, Int.reduceAdd, Int.reduceSub, Int.reduceMul, Int.reduceNeg, Int.reduceToNat]
      refine wcall (c50 b hs) ?_
      simp (config := { failIfUnchanged := false }) (disch := first | omega | (simp [wcs_len] <;> omega) | fail) only [go_sem, ↓reduceIte, reduceCtorEq, Nat.reduceEqDiff, Nat.reduceAdd, Nat.reduceMul, Nat.reduceSub, Nat.reduceLeDiff, Int.reduceEq, Int.reduceLT, Int.reduceLE, Int.reduceAdd, Int.reduceSub, Int.reduceMul, Int.reduceNeg, Int.reduceToNat]
      refine wcall (c42r b hs n) ?_
      simp (config := { failIfUnchanged := false }) (disch := first | omega | (simp [wcs_len] <;> omega) | fail) only [go_sem, ↓reduceIte, reduceCtorEq, Nat.reduceEqDiff, Nat.reduceAdd, Nat.reduceMul, Nat.reduceSub, Nat.reduceLeDiff, Int.reduceEq, Int.reduceLT, Int.reduceLE, Int.reduceAdd, Int.reduceSub, Int.reduceMul, Int.reduceNeg, Int.reduceToNat]
      refine wcall (c51r b hs n) ?_
      simp (config := { failIfUnchanged := false }) (disch := first | omega | (simp [wcs_len] <;> omega) | fail) only [go_sem, ↓reduceIte, reduceCtorEq, Nat.reduceEqDiff, Nat.reduceAdd, Nat.reduceMul, Nat.reduceSub, Nat.reduceLeDiff, Int.reduceEq, Int.reduceLT, Int.reduceLE, Int.reduceAdd, Int.reduceSub, Int.reduceMul, Int.reduceNeg, Int.reduceToNat]
      refine wcall (c45r b hs l (by omega)) ?_
      simp (config := { failIfUnchanged := false }) (disch := first | omega | (simp [wcs_len] <;> omega) | fail) only [go_sem, ↓reduceIte, reduceCtorEq, Nat.reduceEqDiff, Nat.reduceAdd, Nat.reduceMul, Nat.reduceSub, Nat.reduceLeDiff, Int.reduceEq, Int.reduceLT, Int.reduceLE, Int.reduceAdd, Int.reduceSub, Int.reduceMul, Int.reduceNeg, Int.reduceToNat]
      refine wcall (c52r b hs l (by omega)) ?_
      simp (config := { failIfUnchanged := false }) (disch := first | omega | (simp [wcs_len] <;> omega) | fail) only [go_sem, ↓reduceIte, reduceCtorEq, Nat.reduceEqDiff, Nat.reduceAdd, Nat.reduceMul, Nat.reduceSub, Nat.reduceLeDiff, Int.reduceEq, Int.reduceLT, Int.reduceLE, Int.reduceAdd, Int.reduceSub, Int.reduceMul, Int.reduceNeg, Int.reduceToNat]
      refine wcall (c53r b hs c) ?_
      simp (config := { failIfUnchanged := false }) (disch := first | omega | (simp [wcs_len] <;> omega) | fail) only [go_sem, ↓reduceIte, reduceCtorEq, Nat.reduceEqDiff, Nat.reduceAdd, Nat.reduceMul, Nat.reduceSub, Nat.reduceLeDiff, Int.reduceEq, Int.reduceLT, Int.reduceLE, Int.reduceAdd, Int.reduceSub, Int.reduceMul, Int.reduceNeg, Int.reduceToNat]
      refine wcall (c54r b hs c) ?_
      simp (config := { failIfUnchanged := false }) (disch := first | omega | (simp [wcs_len] <;> omega) | fail) only [go_sem, ↓reduceIte, reduceCtorEq, Nat.reduceEqDiff, Nat.reduceAdd, Nat.reduceMul, Nat.reduceSub, Nat.reduceLeDiff, Int.reduceEq, Int.reduceLT, Int.reduceLE, Int.reduceAdd, Int.reduceSub, Int.reduceMul, Int.reduceNeg, Int.reduceToNat]
      refine wcall (c27 _ _ (tieR_len b n)) ?_
      simp (config := { failIfUnchanged := false }) (disch := first | omega | (simp [wcs_len] <;> omega) | fail) only [go_sem, ↓reduceIte, reduceCtorEq, Nat.reduceEqDiff, Nat.reduceAdd, Nat.reduceMul, Nat.reduceSub, Nat.reduceLeDiff, Int.reduceEq, Int.reduceLT, Int.reduceLE, Int.reduceAdd, Int.reduceSub, Int.reduceMul, Int.reduceNeg, Int.reduceToNat]
      refine wcall (c21 b b hs) ?_
      simp (config := { failIfUnchanged := false }) (disch := first | omega | (simp [wcs_len] <;> omega) | fail) only [go_sem, ↓reduceIte, reduceCtorEq, Nat.reduceEqDiff, Nat.reduceAdd, Nat.reduceMul, Nat.reduceSub, Nat.reduceLeDiff, Int.reduceEq, Int.reduceLT, Int.reduceLE, Int.reduceAdd, Int.reduceSub, Int.reduceMul, Int.reduceNeg, Int.reduceToNat]
      refine wcall (c27 _ _ (by omega)) ?_
      simp (config := { failIfUnchanged := false }) (disch := first | omega | (simp [wcs_len] <;> omega) | fail) only [go_sem, ↓reduceIte, reduceCtorEq, Nat.reduceEqDiff, Nat.reduceAdd, Nat.reduceMul, Nat.reduceSub, Nat.reduceLeDiff, Int.reduceEq, Int.reduceLT, Int.reduceLE, Int.reduceAdd, Int.reduceSub, Int.reduceMul, Int.reduceNeg, Int.reduceToNat]
      refine wcall c17 ?_
      simp (config := { failIfUnchanged := false }) (disch := first | omega | (simp [wcs_len] <;> omega) | fail) only [go_sem, ↓reduceIte, reduceCtorEq, Nat.reduceEqDiff, Nat.reduceAdd, Nat.reduceMul, Nat.reduceSub, Nat.reduceLeDiff, Int.reduceEq, Int.reduceLT, Int.reduceLE, Int.reduceAdd, Int.reduceSub, Int.reduceMul, Int.reduceNeg, Int.reduceToNat]
end Go.Proofs.Ytkkiipjfbebipaa

/- A row's arguments: a book, a list of integers, a record of integers. -/
set_option linter.unusedSimpArgs false
set_option linter.unusedVariables false
set_option linter.unnecessarySimpa false
namespace Go.Proofs.Ytkkiipjfbebipaa
open Go Go.V

theorem map_choose {α β γ : Type} {F : α → γ} {G : β → γ} {Q : β → Prop} : ∀ (es : List α), (∀ x ∈ es, ∃ s, F x = G s ∧ Q s) → ∃ l : List β, es.map F = l.map G ∧ l.length = es.length ∧ ∀ s ∈ l, Q s
  | [], _ => ⟨[], rfl, rfl, by simp⟩
  | x :: r, h => by
    obtain ⟨s, h1, h2⟩ := h x (by simp)
    obtain ⟨l, h3, h4, h5⟩ := map_choose r fun y hy => h y (by simp [hy])
    refine ⟨s :: l, by simp [h1, h3], by simp [h4], ?_⟩
    intro t ht
    rcases List.mem_cons.1 ht with rfl | ht
    · exact h2
    · exact h5 t ht

theorem ty_sp {cs : List AV} (h : Ty (.st [.int, .int]) cs) : ∃ s : Sp, cs = [.int s.lo, .int s.hi] := by
  simp only [Ty, TyL] at h
  obtain ⟨a, b, rfl, ⟨n, _, rfl⟩, c, d, rfl, ⟨m, _, rfl⟩, rfl⟩ := h
  exact ⟨⟨n, m⟩, rfl⟩

theorem ty_ss {cs : List AV} (h : Ty (.sl (.st [.int, .int])) cs) : ∃ l : List Sp, cs = [SS l] ∧ l.length < 9223372036854775808 := by
  rw [Ty] at h
  obtain ⟨es, rfl, h1, h2⟩ := h
  obtain ⟨l, h3, h4, _⟩ := map_choose (F := fun x => if TC.isSt (.st [.int, .int]) then AV.agg x else x[0]?.getD .und) (G := SP) (Q := fun _ => True) es (fun x hx => by
    obtain ⟨s, rfl⟩ := ty_sp (h2 x hx)
    exact ⟨s, rfl, trivial⟩)
  refine ⟨l, ?_, by omega⟩
  rw [h3]
  rfl

theorem ty_is {cs : List AV} (h : Ty (.sl .int) cs) : ∃ l : List Int, cs = [IS l] ∧ l.length < 9223372036854775808 := by
  rw [Ty] at h
  obtain ⟨es, rfl, h1, h2⟩ := h
  obtain ⟨l, h3, h4, _⟩ := map_choose (F := fun x => if TC.isSt .int then AV.agg x else x[0]?.getD .und) (G := AV.int) (Q := fun _ => True) es (fun x hx => by
    have := h2 x hx
    rw [Ty] at this
    obtain ⟨n, _, rfl⟩ := this
    exact ⟨n, rfl, trivial⟩)
  refine ⟨l, ?_, by omega⟩
  rw [h3]
  rfl

theorem ty_cs {cs : List AV} (h : Ty (.sl (.sl (.st [.int, .int]))) cs) : ∃ l : List (List Sp), cs = [.sl 1 (l.map SS) .sh] ∧ l.length < 9223372036854775808 ∧ ∀ x ∈ l, x.length < 9223372036854775808 := by
  rw [Ty] at h
  obtain ⟨es, rfl, h1, h2⟩ := h
  obtain ⟨l, h3, h4, h5⟩ := map_choose (F := fun x => if TC.isSt (.sl (.st [.int, .int])) then AV.agg x else x[0]?.getD .und) (G := SS) (Q := fun s => s.length < 9223372036854775808) es (fun x hx => by
    obtain ⟨s, rfl, hs⟩ := ty_ss (h2 x hx)
    exact ⟨s, rfl, hs⟩)
  refine ⟨l, ?_, by omega, h5⟩
  rw [h3]
  rfl

abbrev tcB : TC := .st [.int, .int, .sl (.sl (.st [.int, .int])), .sl (.st [.int, .int])]

theorem ty_book {av : AV} (h : TyV tcB av) : ∃ b : Bk, av = KB b ∧ b.cords.length < 9223372036854775808 ∧ b.top.length < 9223372036854775808 ∧ ∀ x ∈ b.cords, x.length < 9223372036854775808 := by
  obtain ⟨cs, rfl, h⟩ := h
  simp only [TyL] at h
  obtain ⟨a, x, rfl, ha, b, y, rfl, hb, c, z, rfl, hc, d, u, rfl, hd, rfl⟩ := h
  rw [Ty] at ha hb
  obtain ⟨n, _, rfl⟩ := ha
  obtain ⟨m, _, rfl⟩ := hb
  obtain ⟨l, rfl, h1, h2⟩ := ty_cs hc
  obtain ⟨t, rfl, h3⟩ := ty_ss hd
  exact ⟨⟨n, m, l, t⟩, rfl, h1, h3, h2⟩

theorem ty_dig {av : AV} (h : TyV (.sl .int) av) : ∃ l : List Int, av = IS l ∧ l.length < 9223372036854775808 := by
  obtain ⟨l, h1, h2⟩ := ty_is h
  exact ⟨l, by simpa using h1, h2⟩

theorem ty_rs {av : AV} (h : TyV (.sl (.sl .int)) av) : ∃ l : List (List Int), av = .sl 1 (l.map IS) .sh ∧ l.length < 9223372036854775808 ∧ ∀ x ∈ l, x.length < 9223372036854775808 := by
  have h' : Ty (.sl (.sl .int)) [av] := h
  rw [Ty] at h'
  obtain ⟨es, e, h1, h2⟩ := h'
  obtain ⟨l, h3, h4, h5⟩ := map_choose (F := fun x => if TC.isSt (.sl .int) then AV.agg x else x[0]?.getD .und) (G := IS) (Q := fun s => s.length < 9223372036854775808) es (fun x hx => by
    obtain ⟨s, rfl, hs⟩ := ty_is (h2 x hx)
    exact ⟨s, rfl, hs⟩)
  refine ⟨l, ?_, by omega, h5⟩
  rw [h3] at e
  simp only [List.cons.injEq, and_true] at e
  exact e

theorem ty_sp1 {av : AV} (h : TyV (.st [.int, .int]) av) : ∃ s : Sp, av = SP s := by
  obtain ⟨cs, rfl, h⟩ := h
  obtain ⟨s, rfl⟩ := ty_sp (cs := cs) h
  exact ⟨s, rfl⟩

theorem ty_ask {av : AV} (h : TyV (.st [.int, .int, .int]) av) : ∃ n c p : Int, av = .agg [.int n, .int c, .int p] := by
  obtain ⟨cs, rfl, h⟩ := h
  simp only [TyL] at h
  obtain ⟨a, x, rfl, ha, b, y, rfl, hb, c, z, rfl, hc, rfl⟩ := h
  rw [Ty] at ha hb hc
  obtain ⟨n, _, rfl⟩ := ha
  obtain ⟨m, _, rfl⟩ := hb
  obtain ⟨k, _, rfl⟩ := hc
  exact ⟨n, m, k, rfl⟩

theorem ty_int {av : AV} (h : TyV .int av) : ∃ n : Int, av = .int n ∧ -9223372036854775808 ≤ n ∧ n ≤ 9223372036854775807 := by
  have h' : Ty .int [av] := h
  rw [Ty] at h'
  obtain ⟨n, h1, h2⟩ := h'
  exact ⟨n, by simpa using h2, h1.1, h1.2⟩

theorem laidOutP : laidOutB Try.prog = true := by kernel_rfl

end Go.Proofs.Ytkkiipjfbebipaa

/- KnotsBack. -/
set_option linter.unusedSimpArgs false
set_option linter.unusedVariables false
set_option linter.unnecessarySimpa false
namespace Go.Proofs.Ytkkiipjfbebipaa
open Go Go.V

def earL : List Int → List Int → Bool
  | x :: r, y :: s => if x = y then earL r s else decide (x < y)
  | _, _ => false

theorem earL_drop : ∀ (i : Nat) (a b : List Int), a.take i = b.take i → earL a b = earL (a.drop i) (b.drop i)
  | 0, a, b, _ => by simp
  | i + 1, [], b, h => by
    cases b with
    | nil => simp
    | cons y s => simp at h
  | i + 1, x :: r, [], h => by simp at h
  | i + 1, x :: r, y :: s, h => by
    simp only [List.take_succ_cons, List.cons.injEq] at h
    obtain ⟨rfl, h⟩ := h
    simp only [earL, if_true, List.drop_succ_cons]
    exact earL_drop i r s h

theorem earL_at {a b : List Int} {i : Nat} (ha : i < a.length) (hb : i < b.length) (h : a.take i = b.take i) (hne : a[i]?.getD default ≠ b[i]?.getD default) : earL a b = decide (a[i]?.getD default < b[i]?.getD default) := by
  rw [earL_drop i a b h, List.drop_eq_getElem_cons ha, List.drop_eq_getElem_cons hb]
  simp only [List.getElem?_eq_getElem ha, List.getElem?_eq_getElem hb, Option.getD_some] at hne ⊢
  simp only [earL, if_neg hne]

theorem earL_end {a b : List Int} {i : Nat} (h : a.take i = b.take i) (hi : a.length ≤ i ∨ b.length ≤ i) : earL a b = false := by
  rw [earL_drop i a b h]
  rcases hi with hi | hi
  · rw [List.drop_eq_nil_of_le hi]
    simp [earL]
  · rw [List.drop_eq_nil_of_le hi]
    cases a.drop i <;> simp [earL]

theorem c44 (a b : List Int) (ha : a.length < 4294967296) (hb : b.length < 4294967296) : Ctr Try.prog 44 [IS a, IS b] (.bool (earL a b)) := by
  refine ctr_of_wp hmix Try.func44 m44 rfl ?_
  unfold v44 IS
  simp (config := { failIfUnchanged := false }) (disch := first | omega | (simp [wcs_len] <;> omega) | fail) only [go_sem, ↓reduceIte, reduceCtorEq, Nat.reduceEqDiff, Nat.reduceAdd, Nat.reduceMul, Nat.reduceSub, Nat.reduceLeDiff, Int.reduceEq, Int.reduceLT, Int.reduceLE, Int.reduceAdd, Int.reduceSub, Int.reduceMul, Int.reduceNeg, Int.reduceToNat]
  refine wp_loop' Nat (fun i => ⟨[(0, IS a), (1, IS b), (5, .int i)], [], [], none⟩) (fun i => i ≤ a.length ∧ i ≤ b.length ∧ a.take i = b.take i) (fun i => a.length - i) 0 (by simp) (by unfold IS; simp (config := { failIfUnchanged := false }) (disch := first | omega | (simp [wcs_len] <;> omega) | fail) only [go_sem, ↓reduceIte, reduceCtorEq, Nat.reduceEqDiff, Nat.reduceAdd, Nat.reduceMul, Nat.reduceSub, Nat.reduceLeDiff, Int.reduceEq, Int.reduceLT, Int.reduceLE, Int.reduceAdd, Int.reduceSub, Int.reduceMul, Int.reduceNeg, Int.reduceToNat]; rfl) ?_
  rintro i ⟨hi, hi2, hpre⟩
  unfold IS
  simp (config := { failIfUnchanged := false }) (disch := first | omega | (simp [wcs_len] <;> omega) | fail) only [go_sem, ↓reduceIte, reduceCtorEq, Nat.reduceEqDiff, Nat.reduceAdd, Nat.reduceMul, Nat.reduceSub, Nat.reduceLeDiff, Int.reduceEq, Int.reduceLT, Int.reduceLE, Int.reduceAdd, Int.reduceSub, Int.reduceMul, Int.reduceNeg, Int.reduceToNat]
  refine WGd_bool (fun h => ?_) (fun h => ?_)
  · simp (config := { failIfUnchanged := false }) (disch := first | omega | (simp [wcs_len] <;> omega) | fail) only [go_sem, ↓reduceIte, reduceCtorEq, Nat.reduceEqDiff, Nat.reduceAdd, Nat.reduceMul, Nat.reduceSub, Nat.reduceLeDiff, Int.reduceEq, Int.reduceLT, Int.reduceLE, Int.reduceAdd, Int.reduceSub, Int.reduceMul, Int.reduceNeg, Int.reduceToNat, h]
    have h1 : i < a.length := by simpa using h
    refine wcond_dec (fun h2 => ?_) (fun h2 => ?_)
    · have h2' : i < b.length := by omega
      simp (config := { failIfUnchanged := false }) (disch := first | omega | (simp [wcs_len] <;> omega) | fail) only [go_sem, ↓reduceIte, reduceCtorEq, Nat.reduceEqDiff, Nat.reduceAdd, Nat.reduceMul, Nat.reduceSub, Nat.reduceLeDiff, Int.reduceEq, Int.reduceLT, Int.reduceLE, Int.reduceAdd, Int.reduceSub, Int.reduceMul, Int.reduceNeg, Int.reduceToNat, h2]
      refine wcond_dec (fun h3 => ?_) (fun h3 => ?_)
      · simp (config := { failIfUnchanged := false }) (disch := first | omega | (simp [wcs_len] <;> omega) | fail) only [go_sem, ↓reduceIte, reduceCtorEq, Nat.reduceEqDiff, Nat.reduceAdd, Nat.reduceMul, Nat.reduceSub, Nat.reduceLeDiff, Int.reduceEq, Int.reduceLT, Int.reduceLE, Int.reduceAdd, Int.reduceSub, Int.reduceMul, Int.reduceNeg, Int.reduceToNat]
        rw [earL_at h1 h2' hpre (by simpa using h3)]
      · simp (config := { failIfUnchanged := false }) (disch := first | omega | (simp [wcs_len] <;> omega) | fail) only [go_sem, ↓reduceIte, reduceCtorEq, Nat.reduceEqDiff, Nat.reduceAdd, Nat.reduceMul, Nat.reduceSub, Nat.reduceLeDiff, Int.reduceEq, Int.reduceLT, Int.reduceLE, Int.reduceAdd, Int.reduceSub, Int.reduceMul, Int.reduceNeg, Int.reduceToNat]
        refine ⟨i + 1, ⟨by omega, by omega, ?_⟩, by dsimp only; omega, ?_⟩
        · have e1 : a[i]? = some a[i] := List.getElem?_eq_getElem (by omega)
          have e2 : b[i]? = some b[i] := List.getElem?_eq_getElem (by omega)
          rw [List.take_add_one, List.take_add_one, hpre, e1, e2]
          simp only [e1, e2, Option.getD_some, Decidable.not_not] at h3
          rw [h3]
        · simp (config := { failIfUnchanged := false }) (disch := first | omega | (simp [wcs_len] <;> omega) | fail) only [go_sem, ↓reduceIte, reduceCtorEq, Nat.reduceEqDiff, Nat.reduceAdd, Nat.reduceMul, Nat.reduceSub, Nat.reduceLeDiff, Int.reduceEq, Int.reduceLT, Int.reduceLE, Int.reduceAdd, Int.reduceSub, Int.reduceMul, Int.reduceNeg, Int.reduceToNat]
          simp
    · simp (config := { failIfUnchanged := false }) (disch := first | omega | (simp [wcs_len] <;> omega) | fail) only [go_sem, ↓reduceIte, reduceCtorEq, Nat.reduceEqDiff, Nat.reduceAdd, Nat.reduceMul, Nat.reduceSub, Nat.reduceLeDiff, Int.reduceEq, Int.reduceLT, Int.reduceLE, Int.reduceAdd, Int.reduceSub, Int.reduceMul, Int.reduceNeg, Int.reduceToNat, h2]
      rw [earL_end hpre (Or.inr (by omega))]
  · simp (config := { failIfUnchanged := false }) (disch := first | omega | (simp [wcs_len] <;> omega) | fail) only [go_sem, ↓reduceIte, reduceCtorEq, Nat.reduceEqDiff, Nat.reduceAdd, Nat.reduceMul, Nat.reduceSub, Nat.reduceLeDiff, Int.reduceEq, Int.reduceLT, Int.reduceLE, Int.reduceAdd, Int.reduceSub, Int.reduceMul, Int.reduceNeg, Int.reduceToNat, h]
    have h1 : ¬ i < a.length := by simpa using h
    rw [earL_end hpre (Or.inl (by omega))]

theorem c28 (b : Bk) (h1 : b.cords.length < 9223372036854775808) : Ctr Try.prog 28 [KB b] (.bool (!hugeB b && checkB b)) := by
  refine ctr_of_wp hmix Try.func28 m28 rfl ?_
  unfold v28
  simp (config := { failIfUnchanged := false }) (disch := first | omega | (simp [wcs_len] <;> omega) | fail) only [go_sem, ↓reduceIte, reduceCtorEq, Nat.reduceEqDiff, Nat.reduceAdd, Nat.reduceMul, Nat.reduceSub, Nat.reduceLeDiff, Int.reduceEq, Int.reduceLT, Int.reduceLE, Int.reduceAdd, Int.reduceSub, Int.reduceMul, Int.reduceNeg, Int.reduceToNat]
  refine wcall (c48 b h1) ?_
  cases hh : hugeB b with
  | true => simp (config := { failIfUnchanged := false }) (disch := first | omega | (simp [wcs_len] <;> omega) | fail) only [go_sem, ↓reduceIte, reduceCtorEq, Nat.reduceEqDiff, Nat.reduceAdd, Nat.reduceMul, Nat.reduceSub, Nat.reduceLeDiff, Int.reduceEq, Int.reduceLT, Int.reduceLE, Int.reduceAdd, Int.reduceSub, Int.reduceMul, Int.reduceNeg, Int.reduceToNat]
  | false =>
    simp (config := { failIfUnchanged := false }) (disch := first | omega | (simp [wcs_len] <;> omega) | fail) only [go_sem, ↓reduceIte, reduceCtorEq, Nat.reduceEqDiff, Nat.reduceAdd, Nat.reduceMul, Nat.reduceSub, Nat.reduceLeDiff, Int.reduceEq, Int.reduceLT, Int.reduceLE, Int.reduceAdd, Int.reduceSub, Int.reduceMul, Int.reduceNeg, Int.reduceToNat]
    refine wcall (c50 b (small_small hh)) ?_
    cases hc : checkB b with
    | true => simp (config := { failIfUnchanged := false }) (disch := first | omega | (simp [wcs_len] <;> omega) | fail) only [go_sem, ↓reduceIte, reduceCtorEq, Nat.reduceEqDiff, Nat.reduceAdd, Nat.reduceMul, Nat.reduceSub, Nat.reduceLeDiff, Int.reduceEq, Int.reduceLT, Int.reduceLE, Int.reduceAdd, Int.reduceSub, Int.reduceMul, Int.reduceNeg, Int.reduceToNat]
    | false => simp (config := { failIfUnchanged := false }) (disch := first | omega | (simp [wcs_len] <;> omega) | fail) only [go_sem, ↓reduceIte, reduceCtorEq, Nat.reduceEqDiff, Nat.reduceAdd, Nat.reduceMul, Nat.reduceSub, Nat.reduceLeDiff, Int.reduceEq, Int.reduceLT, Int.reduceLE, Int.reduceAdd, Int.reduceSub, Int.reduceMul, Int.reduceNeg, Int.reduceToNat]

/-! Tie, and back. -/
theorem numL_tie (B : Nat) (hB : 2 ≤ B ∧ B ≤ 10) : ∀ P n, P ≤ 4 → n < B ^ P → numL (B : Int) (tieN B P n) = n
  | 0, n, _, h => by
    have : n = 0 := by simpa using h
    subst this
    rfl
  | P + 1, n, hP, h => by
    have hn : n / B < B ^ P := by
      rw [Nat.div_lt_iff_lt_mul (by omega), ← Nat.pow_succ]
      exact h
    have hle : B ^ (P + 1) ≤ 10000 := pow_le hB.2 hP
    have ih := numL_tie B hB P (n / B) (by omega) hn
    have e : numL (B : Int) (tieN B (P + 1) n) = w64 (w64 (((n / B : Nat) : Int) * B) + ((n % B : Nat) : Int)) := by
      show numL (B : Int) (tieN B P (n / B) ++ [((n % B : Nat) : Int)]) = _
      unfold numL at ih ⊢
      rw [List.foldl_append, ih]
      rfl
    have hd : B * (n / B) + n % B = n := Nat.div_add_mod n B
    have hm : B * (n / B) ≤ n := by omega
    have e2 : ((n / B : Nat) : Int) * B = ((B * (n / B) : Nat) : Int) := by rw [Nat.mul_comm]; exact (Int.natCast_mul _ _).symm
    rw [e, e2, w64_id (n := ((B * (n / B) : Nat) : Int)) (by omega), w64_id (n := ((B * (n / B) : Nat) : Int) + ((n % B : Nat) : Int)) (by omega)]
    omega

theorem tie_inj {B : Nat} (hB : 2 ≤ B ∧ B ≤ 10) {P n m : Nat} (hP : P ≤ 4) (hn : n < B ^ P) (hm : m < B ^ P) (h : tieN B P n = tieN B P m) : n = m := by
  have h1 := numL_tie B hB P n hP hn
  rw [h, numL_tie B hB P m hP hm] at h1
  omega

theorem earL_snoc : ∀ (a b : List Int) (x y : Int), a.length = b.length → earL (a ++ [x]) (b ++ [y]) = if a = b then decide (x < y) else earL a b
  | [], [], x, y, _ => by
    simp only [List.nil_append, earL, if_true]
    split
    · next e => subst e; simp
    · rfl
  | u :: r, v :: s, x, y, h => by
    simp only [List.length_cons, Nat.add_right_cancel_iff] at h
    simp only [List.cons_append, earL, List.cons.injEq]
    rw [earL_snoc r s x y h]
    by_cases e : u = v <;> simp [e]
  | [], _ :: _, _, _, h => by simp at h
  | _ :: _, [], _, _, h => by simp at h

theorem ear_tie {B : Nat} (hB : 2 ≤ B ∧ B ≤ 10) : ∀ P n m, P ≤ 4 → n < B ^ P → m < B ^ P → earL (tieN B P n) (tieN B P m) = decide (n < m)
  | 0, n, m, _, hn, hm => by
    have h1 : n = 0 := by simpa using hn
    have h2 : m = 0 := by simpa using hm
    subst h1 h2
    rfl
  | P + 1, n, m, hP, hn, hm => by
    have h1 : n / B < B ^ P := by
      rw [Nat.div_lt_iff_lt_mul (by omega), ← Nat.pow_succ]
      exact hn
    have h2 : m / B < B ^ P := by
      rw [Nat.div_lt_iff_lt_mul (by omega), ← Nat.pow_succ]
      exact hm
    show earL (tieN B P (n / B) ++ [((n % B : Nat) : Int)]) (tieN B P (m / B) ++ [((m % B : Nat) : Int)]) = _
    rw [earL_snoc _ _ _ _ (by rw [tieN_len, tieN_len]), ear_tie hB P _ _ (by omega) h1 h2]
    have d1 := Nat.div_add_mod n B
    have d2 := Nat.div_add_mod m B
    have r1 := Nat.mod_lt n (show 0 < B by omega)
    have r2 := Nat.mod_lt m (show 0 < B by omega)
    by_cases e : n / B = m / B
    · rw [if_pos (by rw [e])]
      rw [e] at d1
      rw [decide_eq_decide]
      omega
    · rw [if_neg fun h => e (tie_inj hB (by omega) h1 h2 h), decide_eq_decide]
      constructor
      · intro h
        have : B * (n / B + 1) ≤ B * (m / B) := Nat.mul_le_mul_left B h
        rw [Nat.mul_add] at this
        omega
      · intro h
        rcases Nat.lt_or_ge (n / B) (m / B) with h' | h'
        · exact h'
        · have : B * (m / B + 1) ≤ B * (n / B) := Nat.mul_le_mul_left B (by omega)
          rw [Nat.mul_add] at this
          omega

theorem tie_dig {B : Nat} (hB : 2 ≤ B) : ∀ P n, ∀ d ∈ tieN B P n, 0 ≤ d ∧ d < B
  | 0, n, d, h => by simp [tieN] at h
  | P + 1, n, d, h => by
    rw [tieN] at h
    rcases List.mem_append.1 h with h | h
    · exact tie_dig hB P _ d h
    · simp only [List.mem_singleton] at h
      subst h
      have := Nat.mod_lt n (show 0 < B by omega)
      omega

theorem areDig_tie {b : Bk} (hv : Val b) (n : Nat) : areDig b (tieN b.base.toNat b.places.toNat n) = true := by
  obtain ⟨hb1, hb2⟩ := hv.hb
  obtain ⟨hp1, hp2⟩ := hv.hp
  unfold areDig
  rw [tieN_len, w64_id (by omega)]
  simp only [Bool.and_eq_true, decide_eq_true_eq, Bool.not_eq_true', List.any_eq_false]
  refine ⟨by omega, fun d hd => ?_⟩
  obtain ⟨h1, h2⟩ := tie_dig (B := b.base.toNat) (by omega) _ _ d hd
  simp only [within, Bool.not_eq_true', Bool.and_eq_true, decide_eq_true_eq, Bool.not_eq_false]
  omega

theorem c9 (b : Bk) (h1 : b.cords.length < 9223372036854775808) (n c p : Int) : Ctr Try.prog 9 [KB b, .agg [.int n, .int c, .int p]] (.bool true) := by
  refine ctr_of_wp hmix Try.func9 m9 rfl ?_
  unfold v9
  simp (config := { failIfUnchanged := false }) (disch := first | omega | (simp [wcs_len] <;> omega) | fail) only [go_sem, ↓reduceIte, reduceCtorEq, Nat.reduceEqDiff, Nat.reduceAdd, Nat.reduceMul, Nat.reduceSub, Nat.reduceLeDiff, Int.reduceEq, Int.reduceLT, Int.reduceLE, Int.reduceAdd, Int.reduceSub, Int.reduceMul, Int.reduceNeg, Int.reduceToNat]
  refine wcall (c28 b h1) ?_
  cases hr : (!hugeB b && checkB b) with
  | false =>
    simp (config := { failIfUnchanged := false }) (disch := first | omega | (simp [wcs_len] <;> omega) | fail) only [go_sem, ↓reduceIte, reduceCtorEq, Nat.reduceEqDiff, Nat.reduceAdd, Nat.reduceMul, Nat.reduceSub, Nat.reduceLeDiff, Int.reduceEq, Int.reduceLT, Int.reduceLE, Int.reduceAdd, Int.reduceSub, Int.reduceMul, Int.reduceNeg, Int.reduceToNat]
    refine wcall c17 ?_
    simp (config := { failIfUnchanged := false }) (disch := first | omega | (simp [wcs_len] <;> omega) | fail) only [go_sem, ↓reduceIte, reduceCtorEq, Nat.reduceEqDiff, Nat.reduceAdd, Nat.reduceMul, Nat.reduceSub, Nat.reduceLeDiff, Int.reduceEq, Int.reduceLT, Int.reduceLE, Int.reduceAdd, Int.reduceSub, Int.reduceMul, Int.reduceNeg, Int.reduceToNat]
  | true =>
    simp only [Bool.and_eq_true, Bool.not_eq_true'] at hr
    obtain ⟨hh, hc⟩ := hr
    have hs := small_small hh
    have hv := val_of_check hc
    have hall := allN_le hv
    have hB : 2 ≤ b.base.toNat ∧ b.base.toNat ≤ 10 := by have := hv.hb; omega
    have hP : b.places.toNat ≤ 4 := by have := hv.hp; omega
    have hbase : ((b.base.toNat : Nat) : Int) = b.base := by have := hv.hb; omega
    simp (config := { failIfUnchanged := false }) (disch := first | omega | (simp [wcs_len] <;> omega) | fail) only [go_sem, ↓reduceIte, reduceCtorEq, Nat.reduceEqDiff, Nat.reduceAdd, Nat.reduceMul, Nat.reduceSub, Nat.reduceLeDiff, Int.reduceEq, Int.reduceLT, Int.reduceLE, Int.reduceAdd, Int.reduceSub, Int.reduceMul, Int.reduceNeg, Int.reduceToNat]
    refine wcall (c41 b hv) ?_
    simp (config := { failIfUnchanged := false }) (disch := first | omega | (simp [wcs_len] <;> omega) | fail) only [go_sem, ↓reduceIte, reduceCtorEq, Nat.reduceEqDiff, Nat.reduceAdd, Nat.reduceMul, Nat.reduceSub, Nat.reduceLeDiff, Int.reduceEq, Int.reduceLT, Int.reduceLE, Int.reduceAdd, Int.reduceSub, Int.reduceMul, Int.reduceNeg, Int.reduceToNat]
    refine wcall (c40 _ _ _) ?_
    cases h2 : within n 0 ((allN b : Int) - 1) with
    | false =>
      simp (config := { failIfUnchanged := false }) (disch := first | omega | (simp [wcs_len] <;> omega) | fail) only [go_sem, ↓reduceIte, reduceCtorEq, Nat.reduceEqDiff, Nat.reduceAdd, Nat.reduceMul, Nat.reduceSub, Nat.reduceLeDiff, Int.reduceEq, Int.reduceLT, Int.reduceLE, Int.reduceAdd, Int.reduceSub, Int.reduceMul, Int.reduceNeg, Int.reduceToNat]
      refine wcall c17 ?_
      simp (config := { failIfUnchanged := false }) (disch := first | omega | (simp [wcs_len] <;> omega) | fail) only [go_sem, ↓reduceIte, reduceCtorEq, Nat.reduceEqDiff, Nat.reduceAdd, Nat.reduceMul, Nat.reduceSub, Nat.reduceLeDiff, Int.reduceEq, Int.reduceLT, Int.reduceLE, Int.reduceAdd, Int.reduceSub, Int.reduceMul, Int.reduceNeg, Int.reduceToNat]
    | true =>
      simp (config := { failIfUnchanged := false }) (disch := first | omega | (simp [wcs_len] <;> omega) | fail) only [go_sem, ↓reduceIte, reduceCtorEq, Nat.reduceEqDiff, Nat.reduceAdd, Nat.reduceMul, Nat.reduceSub, Nat.reduceLeDiff, Int.reduceEq, Int.reduceLT, Int.reduceLE, Int.reduceAdd, Int.reduceSub, Int.reduceMul, Int.reduceNeg, Int.reduceToNat]
      refine wcall (c41 b hv) ?_
      simp (config := { failIfUnchanged := false }) (disch := first | omega | (simp [wcs_len] <;> omega) | fail) only [go_sem, ↓reduceIte, reduceCtorEq, Nat.reduceEqDiff, Nat.reduceAdd, Nat.reduceMul, Nat.reduceSub, Nat.reduceLeDiff, Int.reduceEq, Int.reduceLT, Int.reduceLE, Int.reduceAdd, Int.reduceSub, Int.reduceMul, Int.reduceNeg, Int.reduceToNat]
      refine wcall (c40 _ _ _) ?_
      cases h3 : within p 0 ((allN b : Int) - 1) with
      | false =>
        simp (config := { failIfUnchanged := false }) (disch := first | omega | (simp [wcs_len] <;> omega) | fail) only [go_sem, ↓reduceIte, reduceCtorEq, Nat.reduceEqDiff, Nat.reduceAdd, Nat.reduceMul, Nat.reduceSub, Nat.reduceLeDiff, Int.reduceEq, Int.reduceLT, Int.reduceLE, Int.reduceAdd, Int.reduceSub, Int.reduceMul, Int.reduceNeg, Int.reduceToNat]
        refine wcall c17 ?_
        simp (config := { failIfUnchanged := false }) (disch := first | omega | (simp [wcs_len] <;> omega) | fail) only [go_sem, ↓reduceIte, reduceCtorEq, Nat.reduceEqDiff, Nat.reduceAdd, Nat.reduceMul, Nat.reduceSub, Nat.reduceLeDiff, Int.reduceEq, Int.reduceLT, Int.reduceLE, Int.reduceAdd, Int.reduceSub, Int.reduceMul, Int.reduceNeg, Int.reduceToNat]
      | true =>
        have h2' : 0 ≤ n ∧ n ≤ (allN b : Int) - 1 := by simpa [within] using h2
        have h3' : 0 ≤ p ∧ p ≤ (allN b : Int) - 1 := by simpa [within] using h3
        obtain ⟨n, rfl⟩ : ∃ m : Nat, n = m := ⟨n.toNat, by omega⟩
        obtain ⟨p, rfl⟩ : ∃ m : Nat, p = m := ⟨p.toNat, by omega⟩
        have e1 : tieR b n = (tieN b.base.toNat b.places.toNat n, 0) := by simp [tieR, hc, h2]
        have e2 : tieR b p = (tieN b.base.toNat b.places.toNat p, 0) := by simp [tieR, hc, h3]
        have hn : n < b.base.toNat ^ b.places.toNat := by unfold allN at h2'; omega
        have hp : p < b.base.toNat ^ b.places.toNat := by unfold allN at h3'; omega
        have d1 := areDig_tie hv n
        have d2 := areDig_tie hv p
        have l1 := tieN_len b.base.toNat b.places.toNat n
        have l2 := tieN_len b.base.toNat b.places.toNat p
        have ee : earL (tieN b.base.toNat b.places.toNat n) (tieN b.base.toNat b.places.toNat p) = decide ((n : Int) < (p : Int)) := by
          rw [ear_tie hB b.places.toNat n p hP hn hp, decide_eq_decide]
          omega
        have u1 := numL_tie b.base.toNat hB _ n hP hn
        have u2 := numL_tie b.base.toNat hB _ p hP hp
        rw [hbase] at u1 u2
        simp (config := { failIfUnchanged := false }) (disch := first | omega | (simp [wcs_len] <;> omega) | fail) only [go_sem, ↓reduceIte, reduceCtorEq, Nat.reduceEqDiff, Nat.reduceAdd, Nat.reduceMul, Nat.reduceSub, Nat.reduceLeDiff, Int.reduceEq, Int.reduceLT, Int.reduceLE, Int.reduceAdd, Int.reduceSub, Int.reduceMul, Int.reduceNeg, Int.reduceToNat]
        refine wcall (c42r b hs n) ?_
        rw [e1]
        simp (config := { failIfUnchanged := false }) (disch := first | omega | (simp [wcs_len] <;> omega) | fail) only [go_sem, ↓reduceIte, reduceCtorEq, Nat.reduceEqDiff, Nat.reduceAdd, Nat.reduceMul, Nat.reduceSub, Nat.reduceLeDiff, Int.reduceEq, Int.reduceLT, Int.reduceLE, Int.reduceAdd, Int.reduceSub, Int.reduceMul, Int.reduceNeg, Int.reduceToNat]
        refine wcall (c42r b hs p) ?_
        rw [e2]
        generalize hx : tieN b.base.toNat b.places.toNat n = xs at *
        generalize hy : tieN b.base.toNat b.places.toNat p = ys at *
        simp (config := { failIfUnchanged := false }) (disch := first | omega | (simp [wcs_len] <;> omega) | fail) only [go_sem, ↓reduceIte, reduceCtorEq, Nat.reduceEqDiff, Nat.reduceAdd, Nat.reduceMul, Nat.reduceSub, Nat.reduceLeDiff, Int.reduceEq, Int.reduceLT, Int.reduceLE, Int.reduceAdd, Int.reduceSub, Int.reduceMul, Int.reduceNeg, Int.reduceToNat]
        refine wcall (c43 b xs (by omega)) ?_
        simp (config := { failIfUnchanged := false }) (disch := first | omega | (simp [wcs_len] <;> omega) | fail) only [go_sem, ↓reduceIte, reduceCtorEq, Nat.reduceEqDiff, Nat.reduceAdd, Nat.reduceMul, Nat.reduceSub, Nat.reduceLeDiff, Int.reduceEq, Int.reduceLT, Int.reduceLE, Int.reduceAdd, Int.reduceSub, Int.reduceMul, Int.reduceNeg, Int.reduceToNat, d1]
        refine wcall (c43 b ys (by omega)) ?_
        simp (config := { failIfUnchanged := false }) (disch := first | omega | (simp [wcs_len] <;> omega) | fail) only [go_sem, ↓reduceIte, reduceCtorEq, Nat.reduceEqDiff, Nat.reduceAdd, Nat.reduceMul, Nat.reduceSub, Nat.reduceLeDiff, Int.reduceEq, Int.reduceLT, Int.reduceLE, Int.reduceAdd, Int.reduceSub, Int.reduceMul, Int.reduceNeg, Int.reduceToNat, d2]
        refine wcall (c44 xs ys (by omega) (by omega)) ?_
        simp (config := { failIfUnchanged := false }) (disch := first | omega | (simp [wcs_len] <;> omega) | fail) only [go_sem, ↓reduceIte, reduceCtorEq, Nat.reduceEqDiff, Nat.reduceAdd, Nat.reduceMul, Nat.reduceSub, Nat.reduceLeDiff, Int.reduceEq, Int.reduceLT, Int.reduceLE, Int.reduceAdd, Int.reduceSub, Int.reduceMul, Int.reduceNeg, Int.reduceToNat, ee, beq_self_eq_true, Bool.not_true]
        have rd : readR b xs = ((n : Int), (0 : Int)) := by simp [readR, hc, d1, u1]
        refine wcall (c45r b hs xs (by omega)) ?_
        rw [rd]
        simp (config := { failIfUnchanged := false }) (disch := first | omega | (simp [wcs_len] <;> omega) | fail) only [go_sem, ↓reduceIte, reduceCtorEq, Nat.reduceEqDiff, Nat.reduceAdd, Nat.reduceMul, Nat.reduceSub, Nat.reduceLeDiff, Int.reduceEq, Int.reduceLT, Int.reduceLE, Int.reduceAdd, Int.reduceSub, Int.reduceMul, Int.reduceNeg, Int.reduceToNat]
        refine wcall (c46 b ys (by omega)) ?_
        rw [u2]
        simp (config := { failIfUnchanged := false }) (disch := first | omega | (simp [wcs_len] <;> omega) | fail) only [go_sem, ↓reduceIte, reduceCtorEq, Nat.reduceEqDiff, Nat.reduceAdd, Nat.reduceMul, Nat.reduceSub, Nat.reduceLeDiff, Int.reduceEq, Int.reduceLT, Int.reduceLE, Int.reduceAdd, Int.reduceSub, Int.reduceMul, Int.reduceNeg, Int.reduceToNat]
        refine wcall (c42r b hs p) ?_
        rw [e2]
        simp (config := { failIfUnchanged := false }) (disch := first | omega | (simp [wcs_len] <;> omega) | fail) only [go_sem, ↓reduceIte, reduceCtorEq, Nat.reduceEqDiff, Nat.reduceAdd, Nat.reduceMul, Nat.reduceSub, Nat.reduceLeDiff, Int.reduceEq, Int.reduceLT, Int.reduceLE, Int.reduceAdd, Int.reduceSub, Int.reduceMul, Int.reduceNeg, Int.reduceToNat]
        refine wcall (c27 ys ys (by omega)) ?_
        simp (config := { failIfUnchanged := false }) (disch := first | omega | (simp [wcs_len] <;> omega) | fail) only [go_sem, ↓reduceIte, reduceCtorEq, Nat.reduceEqDiff, Nat.reduceAdd, Nat.reduceMul, Nat.reduceSub, Nat.reduceLeDiff, Int.reduceEq, Int.reduceLT, Int.reduceLE, Int.reduceAdd, Int.reduceSub, Int.reduceMul, Int.reduceNeg, Int.reduceToNat]
        refine wcall c17 ?_
        simp (config := { failIfUnchanged := false }) (disch := first | omega | (simp [wcs_len] <;> omega) | fail) only [go_sem, ↓reduceIte, reduceCtorEq, Nat.reduceEqDiff, Nat.reduceAdd, Nat.reduceMul, Nat.reduceSub, Nat.reduceLeDiff, Int.reduceEq, Int.reduceLT, Int.reduceLE, Int.reduceAdd, Int.reduceSub, Int.reduceMul, Int.reduceNeg, Int.reduceToNat]
end Go.Proofs.Ytkkiipjfbebipaa

/- Right readings; KnotsRight. -/
set_option linter.unusedSimpArgs false
set_option linter.unusedVariables false
set_option linter.unnecessarySimpa false
namespace Go.Proofs.Ytkkiipjfbebipaa
open Go Go.V

abbrev RS (r : List (List Int)) : AV := .sl 1 (r.map IS) .sh

theorem c43w (b : Bk) (l : List Int) (hl : l.length < 9223372036854775808) : Ctr Try.prog 43 [KB b, IS l] (.bool (areDig b l)) := by
  refine ctr_of_wp hmix Try.func43 m43 rfl ?_
  unfold v43 IS
  simp (config := { failIfUnchanged := false }) (disch := first | omega | (simp [wcs_len] <;> omega) | fail) only [go_sem, ↓reduceIte, reduceCtorEq, Nat.reduceEqDiff, Nat.reduceAdd, Nat.reduceMul, Nat.reduceSub, Nat.reduceLeDiff, Int.reduceEq, Int.reduceLT, Int.reduceLE, Int.reduceAdd, Int.reduceSub, Int.reduceMul, Int.reduceNeg, Int.reduceToNat]
  refine wcond_dec (fun h => ?_) (fun h => ?_)
  · simp (config := { failIfUnchanged := false }) (disch := first | omega | (simp [wcs_len] <;> omega) | fail) only [go_sem, ↓reduceIte, reduceCtorEq, Nat.reduceEqDiff, Nat.reduceAdd, Nat.reduceMul, Nat.reduceSub, Nat.reduceLeDiff, Int.reduceEq, Int.reduceLT, Int.reduceLE, Int.reduceAdd, Int.reduceSub, Int.reduceMul, Int.reduceNeg, Int.reduceToNat]
    simp [areDig, h]
  · simp only [Decidable.not_not] at h
    simp (config := { failIfUnchanged := false }) (disch := first | omega | (simp [wcs_len] <;> omega) | fail) only [go_sem, ↓reduceIte, reduceCtorEq, Nat.reduceEqDiff, Nat.reduceAdd, Nat.reduceMul, Nat.reduceSub, Nat.reduceLeDiff, Int.reduceEq, Int.reduceLT, Int.reduceLE, Int.reduceAdd, Int.reduceSub, Int.reduceMul, Int.reduceNeg, Int.reduceToNat]
    refine wp_loop' Nat (fun i => ⟨[(1, IS l), (2, .ptr 2 0), (5, .int i)], [(2, ⟨[.int b.base, .int b.places, .sl 1 (b.cords.map SS) .sh, SS b.top], false⟩)], [], none⟩) (fun i => i ≤ l.length ∧ ∀ x ∈ l.take i, (!within x 0 (w64 (b.base - 1))) = false) (fun i => l.length - i) 0 (by simp) (by unfold IS; simp (config := { failIfUnchanged := false }) (disch := first | omega | (simp [wcs_len] <;> omega) | fail) only [go_sem, ↓reduceIte, reduceCtorEq, Nat.reduceEqDiff, Nat.reduceAdd, Nat.reduceMul, Nat.reduceSub, Nat.reduceLeDiff, Int.reduceEq, Int.reduceLT, Int.reduceLE, Int.reduceAdd, Int.reduceSub, Int.reduceMul, Int.reduceNeg, Int.reduceToNat]; rfl) ?_
    rintro i ⟨hi, hpre⟩
    unfold IS
    simp (config := { failIfUnchanged := false }) (disch := first | omega | (simp [wcs_len] <;> omega) | fail) only [go_sem, ↓reduceIte, reduceCtorEq, Nat.reduceEqDiff, Nat.reduceAdd, Nat.reduceMul, Nat.reduceSub, Nat.reduceLeDiff, Int.reduceEq, Int.reduceLT, Int.reduceLE, Int.reduceAdd, Int.reduceSub, Int.reduceMul, Int.reduceNeg, Int.reduceToNat]
    refine wcond_dec (fun h2 => ?_) (fun h2 => ?_)
    · have hlt : i < l.length := by omega
      simp (config := { failIfUnchanged := false }) (disch := first | omega | (simp [wcs_len] <;> omega) | fail) only [go_sem, ↓reduceIte, reduceCtorEq, Nat.reduceEqDiff, Nat.reduceAdd, Nat.reduceMul, Nat.reduceSub, Nat.reduceLeDiff, Int.reduceEq, Int.reduceLT, Int.reduceLE, Int.reduceAdd, Int.reduceSub, Int.reduceMul, Int.reduceNeg, Int.reduceToNat]
      refine wcall (c76 _ _ _) ?_
      simp (config := { failIfUnchanged := false }) (disch := first | omega | (simp [wcs_len] <;> omega) | fail) only [go_sem, ↓reduceIte, reduceCtorEq, Nat.reduceEqDiff, Nat.reduceAdd, Nat.reduceMul, Nat.reduceSub, Nat.reduceLeDiff, Int.reduceEq, Int.reduceLT, Int.reduceLE, Int.reduceAdd, Int.reduceSub, Int.reduceMul, Int.reduceNeg, Int.reduceToNat]
      refine wcond_bool (fun h4 => ?_) (fun h4 => ?_)
      · simp (config := { failIfUnchanged := false }) (disch := first | omega | (simp [wcs_len] <;> omega) | fail) only [go_sem, ↓reduceIte, reduceCtorEq, Nat.reduceEqDiff, Nat.reduceAdd, Nat.reduceMul, Nat.reduceSub, Nat.reduceLeDiff, Int.reduceEq, Int.reduceLT, Int.reduceLE, Int.reduceAdd, Int.reduceSub, Int.reduceMul, Int.reduceNeg, Int.reduceToNat]
        have : l.any (fun d => !within d 0 (w64 (b.base - 1))) = true := List.any_eq_true.2 ⟨_, mem_getD hlt, h4⟩
        simp only [areDig, this]
        simp
      · simp (config := { failIfUnchanged := false }) (disch := first | omega | (simp [wcs_len] <;> omega) | fail) only [go_sem, ↓reduceIte, reduceCtorEq, Nat.reduceEqDiff, Nat.reduceAdd, Nat.reduceMul, Nat.reduceSub, Nat.reduceLeDiff, Int.reduceEq, Int.reduceLT, Int.reduceLE, Int.reduceAdd, Int.reduceSub, Int.reduceMul, Int.reduceNeg, Int.reduceToNat]
        refine ⟨i + 1, ⟨by omega, take_succ_all (p := fun d => !within d 0 (w64 (b.base - 1))) hlt hpre h4⟩, by dsimp only; omega, ?_⟩
        simp (config := { failIfUnchanged := false }) (disch := first | omega | (simp [wcs_len] <;> omega) | fail) only [go_sem, ↓reduceIte, reduceCtorEq, Nat.reduceEqDiff, Nat.reduceAdd, Nat.reduceMul, Nat.reduceSub, Nat.reduceLeDiff, Int.reduceEq, Int.reduceLT, Int.reduceLE, Int.reduceAdd, Int.reduceSub, Int.reduceMul, Int.reduceNeg, Int.reduceToNat]
        simp
    · simp (config := { failIfUnchanged := false }) (disch := first | omega | (simp [wcs_len] <;> omega) | fail) only [go_sem, ↓reduceIte, reduceCtorEq, Nat.reduceEqDiff, Nat.reduceAdd, Nat.reduceMul, Nat.reduceSub, Nat.reduceLeDiff, Int.reduceEq, Int.reduceLT, Int.reduceLE, Int.reduceAdd, Int.reduceSub, Int.reduceMul, Int.reduceNeg, Int.reduceToNat]
      have e : i = l.length := by omega
      rw [e, List.take_length] at hpre
      have : l.any (fun d => !within d 0 (w64 (b.base - 1))) = false := List.any_eq_false.2 fun x hx => by simp [hpre x hx]
      simp only [areDig, this]
      simp [h]

theorem areDig_len {b : Bk} (hv : Val b) {l : List Int} (h : areDig b l = true) : l.length ≤ 4 := by
  have := hv.hp
  simp only [areDig, Bool.and_eq_true, decide_eq_true_eq] at h
  omega

/-- The sum of the numbers of lists of digits. -/
def sumW (base : Int) (r : List (List Int)) : Int := r.foldl (fun n x => w64 (n + numL base x)) 0

theorem sumW_snoc (base : Int) (r : List (List Int)) (x : List Int) : sumW base (r ++ [x]) = w64 (sumW base r + numL base x) := by
  simp [sumW, List.foldl_append]

theorem areDig_next {b : Bk} {r : List (List Int)} {i : Nat} (hlt : i < r.length) (hpre : ∀ x ∈ r.take i, areDig b x = true) (h : (!areDig b (r[i]?.getD default)) = false) : ∀ x ∈ r.take (i + 1), areDig b x = true := by
  intro x hx
  rw [List.take_add_one, List.getElem?_eq_getElem hlt] at hx
  rcases List.mem_append.1 hx with hx | hx
  · exact hpre x hx
  · simp only [Option.toList_some, List.mem_singleton] at hx
    subst hx
    simpa [List.getElem?_eq_getElem hlt] using h

def isSumB (b : Bk) (r : List (List Int)) : Bool := decide (r.length = b.cords.length + 1) && (r.all (areDig b) && decide (sumW b.base (r.take b.cords.length) = numL b.base (r[b.cords.length]?.getD default)))

theorem c98 (b : Bk) (hv : Val b) (hs : Small b) (r : List (List Int)) (hr : r.length < 9223372036854775808) (hd : ∀ l ∈ r, l.length < 9223372036854775808) : Ctr Try.prog 98 [KB b, RS r] (.bool (isSumB b r)) := by
  refine ctr_of_wp hmix Try.func98 m98 rfl ?_
  unfold v98
  have hcl := hs.cords
  simp (config := { failIfUnchanged := false }) (disch := first | omega | (simp [wcs_len] <;> omega) | fail) only [go_sem, ↓reduceIte, reduceCtorEq, Nat.reduceEqDiff, Nat.reduceAdd, Nat.reduceMul, Nat.reduceSub, Nat.reduceLeDiff, Int.reduceEq, Int.reduceLT, Int.reduceLE, Int.reduceAdd, Int.reduceSub, Int.reduceMul, Int.reduceNeg, Int.reduceToNat]
  refine wcond_dec (fun h => ?_) (fun h => ?_)
  · simp (config := { failIfUnchanged := false }) (disch := first | omega | (simp [wcs_len] <;> omega) | fail) only [go_sem, ↓reduceIte, reduceCtorEq, Nat.reduceEqDiff, Nat.reduceAdd, Nat.reduceMul, Nat.reduceSub, Nat.reduceLeDiff, Int.reduceEq, Int.reduceLT, Int.reduceLE, Int.reduceAdd, Int.reduceSub, Int.reduceMul, Int.reduceNeg, Int.reduceToNat]
    have : isSumB b r = false := by
      unfold isSumB
      have : ¬ r.length = b.cords.length + 1 := by omega
      simp [this]
    rw [this]
  · have hlen : r.length = b.cords.length + 1 := by omega
    simp (config := { failIfUnchanged := false }) (disch := first | omega | (simp [wcs_len] <;> omega) | fail) only [go_sem, ↓reduceIte, reduceCtorEq, Nat.reduceEqDiff, Nat.reduceAdd, Nat.reduceMul, Nat.reduceSub, Nat.reduceLeDiff, Int.reduceEq, Int.reduceLT, Int.reduceLE, Int.reduceAdd, Int.reduceSub, Int.reduceMul, Int.reduceNeg, Int.reduceToNat]
    refine wp_loop' Nat (fun i => ⟨[(1, RS r), (2, .ptr 2 0), (5, .int (sumW b.base (r.take (min i b.cords.length)))), (6, .int i)], [(2, ⟨[.int b.base, .int b.places, .sl 1 (b.cords.map SS) .sh, SS b.top], false⟩)], [], none⟩) (fun i => i ≤ r.length ∧ ∀ x ∈ r.take i, areDig b x = true) (fun i => r.length - i) 0 (by simp) (by simp (config := { failIfUnchanged := false }) (disch := first | omega | (simp [wcs_len] <;> omega) | fail) only [go_sem, ↓reduceIte, reduceCtorEq, Nat.reduceEqDiff, Nat.reduceAdd, Nat.reduceMul, Nat.reduceSub, Nat.reduceLeDiff, Int.reduceEq, Int.reduceLT, Int.reduceLE, Int.reduceAdd, Int.reduceSub, Int.reduceMul, Int.reduceNeg, Int.reduceToNat]; simp [sumW]) ?_
    rintro i ⟨hi, hpre⟩
    simp (config := { failIfUnchanged := false }) (disch := first | omega | (simp [wcs_len] <;> omega) | fail) only [go_sem, ↓reduceIte, reduceCtorEq, Nat.reduceEqDiff, Nat.reduceAdd, Nat.reduceMul, Nat.reduceSub, Nat.reduceLeDiff, Int.reduceEq, Int.reduceLT, Int.reduceLE, Int.reduceAdd, Int.reduceSub, Int.reduceMul, Int.reduceNeg, Int.reduceToNat]
    refine wcond_dec (fun h5 => ?_) (fun h5 => ?_)
    · have hlt : i < r.length := by omega
      have hml := hd _ (mem_getD hlt)
      simp (config := { failIfUnchanged := false }) (disch := first | omega | (simp [wcs_len] <;> omega) | fail) only [go_sem, ↓reduceIte, reduceCtorEq, Nat.reduceEqDiff, Nat.reduceAdd, Nat.reduceMul, Nat.reduceSub, Nat.reduceLeDiff, Int.reduceEq, Int.reduceLT, Int.reduceLE, Int.reduceAdd, Int.reduceSub, Int.reduceMul, Int.reduceNeg, Int.reduceToNat]
      refine wcall (c43w b _ hml) ?_
      simp (config := { failIfUnchanged := false }) (disch := first | omega | (simp [wcs_len] <;> omega) | fail) only [go_sem, ↓reduceIte, reduceCtorEq, Nat.reduceEqDiff, Nat.reduceAdd, Nat.reduceMul, Nat.reduceSub, Nat.reduceLeDiff, Int.reduceEq, Int.reduceLT, Int.reduceLE, Int.reduceAdd, Int.reduceSub, Int.reduceMul, Int.reduceNeg, Int.reduceToNat]
      refine wcond_bool (fun h6 => ?_) (fun h6 => ?_)
      · simp (config := { failIfUnchanged := false }) (disch := first | omega | (simp [wcs_len] <;> omega) | fail) only [go_sem, ↓reduceIte, reduceCtorEq, Nat.reduceEqDiff, Nat.reduceAdd, Nat.reduceMul, Nat.reduceSub, Nat.reduceLeDiff, Int.reduceEq, Int.reduceLT, Int.reduceLE, Int.reduceAdd, Int.reduceSub, Int.reduceMul, Int.reduceNeg, Int.reduceToNat]
        have : isSumB b r = false := by
          have : r.all (areDig b) = false := List.all_eq_false.2 ⟨_, mem_getD hlt, by simpa using h6⟩
          simp [isSumB, this]
        rw [this]
      · simp (config := { failIfUnchanged := false }) (disch := first | omega | (simp [wcs_len] <;> omega) | fail) only [go_sem, ↓reduceIte, reduceCtorEq, Nat.reduceEqDiff, Nat.reduceAdd, Nat.reduceMul, Nat.reduceSub, Nat.reduceLeDiff, Int.reduceEq, Int.reduceLT, Int.reduceLE, Int.reduceAdd, Int.reduceSub, Int.reduceMul, Int.reduceNeg, Int.reduceToNat]
        refine wcond_dec (fun h7 => ?_) (fun h7 => ?_)
        · have hl4 := areDig_len hv (show areDig b (r[i]?.getD default) = true by simpa using h6)
          simp (config := { failIfUnchanged := false }) (disch := first | omega | (simp [wcs_len] <;> omega) | fail) only [go_sem, ↓reduceIte, reduceCtorEq, Nat.reduceEqDiff, Nat.reduceAdd, Nat.reduceMul, Nat.reduceSub, Nat.reduceLeDiff, Int.reduceEq, Int.reduceLT, Int.reduceLE, Int.reduceAdd, Int.reduceSub, Int.reduceMul, Int.reduceNeg, Int.reduceToNat]
          refine wcall (c46 b _ (by omega)) ?_
          simp (config := { failIfUnchanged := false }) (disch := first | omega | (simp [wcs_len] <;> omega) | fail) only [go_sem, ↓reduceIte, reduceCtorEq, Nat.reduceEqDiff, Nat.reduceAdd, Nat.reduceMul, Nat.reduceSub, Nat.reduceLeDiff, Int.reduceEq, Int.reduceLT, Int.reduceLE, Int.reduceAdd, Int.reduceSub, Int.reduceMul, Int.reduceNeg, Int.reduceToNat]
          refine ⟨i + 1, ⟨by omega, areDig_next hlt hpre h6⟩, by dsimp only; omega, ?_⟩
          have e1 : min i b.cords.length = i := by omega
          have e2 : min (i + 1) b.cords.length = i + 1 := by omega
          have e3 : r.take (i + 1) = r.take i ++ [r[i]?.getD default] := by
            rw [List.take_add_one, List.getElem?_eq_getElem hlt]
            rfl
          dsimp only
          rw [e1, e2, e3, sumW_snoc]
          simp (config := { failIfUnchanged := false }) (disch := first | omega | (simp [wcs_len] <;> omega) | fail) only [go_sem, ↓reduceIte, reduceCtorEq, Nat.reduceEqDiff, Nat.reduceAdd, Nat.reduceMul, Nat.reduceSub, Nat.reduceLeDiff, Int.reduceEq, Int.reduceLT, Int.reduceLE, Int.reduceAdd, Int.reduceSub, Int.reduceMul, Int.reduceNeg, Int.reduceToNat]
          simp
        · simp (config := { failIfUnchanged := false }) (disch := first | omega | (simp [wcs_len] <;> omega) | fail) only [go_sem, ↓reduceIte, reduceCtorEq, Nat.reduceEqDiff, Nat.reduceAdd, Nat.reduceMul, Nat.reduceSub, Nat.reduceLeDiff, Int.reduceEq, Int.reduceLT, Int.reduceLE, Int.reduceAdd, Int.reduceSub, Int.reduceMul, Int.reduceNeg, Int.reduceToNat]
          refine ⟨i + 1, ⟨by omega, areDig_next hlt hpre h6⟩, by dsimp only; omega, ?_⟩
          have e1 : min i b.cords.length = b.cords.length := by omega
          have e2 : min (i + 1) b.cords.length = b.cords.length := by omega
          dsimp only
          rw [e1, e2]
          simp (config := { failIfUnchanged := false }) (disch := first | omega | (simp [wcs_len] <;> omega) | fail) only [go_sem, ↓reduceIte, reduceCtorEq, Nat.reduceEqDiff, Nat.reduceAdd, Nat.reduceMul, Nat.reduceSub, Nat.reduceLeDiff, Int.reduceEq, Int.reduceLT, Int.reduceLE, Int.reduceAdd, Int.reduceSub, Int.reduceMul, Int.reduceNeg, Int.reduceToNat]
          simp
    · have e : i = r.length := by omega
      subst e
      rw [List.take_length] at hpre
      have e1 : min r.length b.cords.length = b.cords.length := by omega
      rw [e1]
      have hml := hd _ (mem_getD (show b.cords.length < r.length by omega))
      have hl4 := areDig_len hv (hpre _ (mem_getD (show b.cords.length < r.length by omega)))
      simp (config := { failIfUnchanged := false }) (disch := first | omega | (simp [wcs_len] <;> omega) | fail) only [go_sem, ↓reduceIte, reduceCtorEq, Nat.reduceEqDiff, Nat.reduceAdd, Nat.reduceMul, Nat.reduceSub, Nat.reduceLeDiff, Int.reduceEq, Int.reduceLT, Int.reduceLE, Int.reduceAdd, Int.reduceSub, Int.reduceMul, Int.reduceNeg, Int.reduceToNat]
      refine wcall (c46 b _ (by omega)) ?_
      simp (config := { failIfUnchanged := false }) (disch := first | omega | (simp [wcs_len] <;> omega) | fail) only [go_sem, ↓reduceIte, reduceCtorEq, Nat.reduceEqDiff, Nat.reduceAdd, Nat.reduceMul, Nat.reduceSub, Nat.reduceLeDiff, Int.reduceEq, Int.reduceLT, Int.reduceLE, Int.reduceAdd, Int.reduceSub, Int.reduceMul, Int.reduceNeg, Int.reduceToNat]
      have : r.all (areDig b) = true := List.all_eq_true.2 hpre
      simp [isSumB, this, hlen]

def isRightB (b : Bk) (r : List (List Int)) : Bool := isSumB b r && (List.range r.length).all fun i => fitsL (cordAt b i) (r[i]?.getD default)

theorem c61 (b : Bk) (hv : Val b) (hs : Small b) (r : List (List Int)) (hr : r.length < 9223372036854775808) (hd : ∀ l ∈ r, l.length < 9223372036854775808) : Ctr Try.prog 61 [KB b, RS r] (.bool (isRightB b r)) := by
  refine ctr_of_wp hmix Try.func61 m61 rfl ?_
  unfold v61
  have hcl := hs.cords
  simp (config := { failIfUnchanged := false }) (disch := first | omega | (simp [wcs_len] <;> omega) | fail) only [go_sem, ↓reduceIte, reduceCtorEq, Nat.reduceEqDiff, Nat.reduceAdd, Nat.reduceMul, Nat.reduceSub, Nat.reduceLeDiff, Int.reduceEq, Int.reduceLT, Int.reduceLE, Int.reduceAdd, Int.reduceSub, Int.reduceMul, Int.reduceNeg, Int.reduceToNat]
  refine wcall (c98 b hv hs r hr hd) ?_
  simp (config := { failIfUnchanged := false }) (disch := first | omega | (simp [wcs_len] <;> omega) | fail) only [go_sem, ↓reduceIte, reduceCtorEq, Nat.reduceEqDiff, Nat.reduceAdd, Nat.reduceMul, Nat.reduceSub, Nat.reduceLeDiff, Int.reduceEq, Int.reduceLT, Int.reduceLE, Int.reduceAdd, Int.reduceSub, Int.reduceMul, Int.reduceNeg, Int.reduceToNat]
  cases hsum : isSumB b r with
  | false =>
    simp (config := { failIfUnchanged := false }) (disch := first | omega | (simp [wcs_len] <;> omega) | fail) only [go_sem, ↓reduceIte, reduceCtorEq, Nat.reduceEqDiff, Nat.reduceAdd, Nat.reduceMul, Nat.reduceSub, Nat.reduceLeDiff, Int.reduceEq, Int.reduceLT, Int.reduceLE, Int.reduceAdd, Int.reduceSub, Int.reduceMul, Int.reduceNeg, Int.reduceToNat]
    simp [isRightB, hsum]
  | true =>
    simp (config := { failIfUnchanged := false }) (disch := first | omega | (simp [wcs_len] <;> omega) | fail) only [go_sem, ↓reduceIte, reduceCtorEq, Nat.reduceEqDiff, Nat.reduceAdd, Nat.reduceMul, Nat.reduceSub, Nat.reduceLeDiff, Int.reduceEq, Int.reduceLT, Int.reduceLE, Int.reduceAdd, Int.reduceSub, Int.reduceMul, Int.reduceNeg, Int.reduceToNat]
    have hsum2 := hsum
    simp only [isSumB, Bool.and_eq_true, decide_eq_true_eq, List.all_eq_true] at hsum2
    obtain ⟨hlen, hall, _⟩ := hsum2
    refine wp_loop' Nat (fun i => ⟨[(1, RS r), (2, .ptr 2 0), (5, .int i)], [(2, ⟨[.int b.base, .int b.places, .sl 1 (b.cords.map SS) .sh, SS b.top], false⟩)], [], none⟩) (fun i => i ≤ r.length ∧ ∀ j, j < i → fitsL (cordAt b j) (r[j]?.getD default) = true) (fun i => r.length - i) 0 (by simp) (by simp (config := { failIfUnchanged := false }) (disch := first | omega | (simp [wcs_len] <;> omega) | fail) only [go_sem, ↓reduceIte, reduceCtorEq, Nat.reduceEqDiff, Nat.reduceAdd, Nat.reduceMul, Nat.reduceSub, Nat.reduceLeDiff, Int.reduceEq, Int.reduceLT, Int.reduceLE, Int.reduceAdd, Int.reduceSub, Int.reduceMul, Int.reduceNeg, Int.reduceToNat]; simp) ?_
    rintro i ⟨hi, hpre⟩
    simp (config := { failIfUnchanged := false }) (disch := first | omega | (simp [wcs_len] <;> omega) | fail) only [go_sem, ↓reduceIte, reduceCtorEq, Nat.reduceEqDiff, Nat.reduceAdd, Nat.reduceMul, Nat.reduceSub, Nat.reduceLeDiff, Int.reduceEq, Int.reduceLT, Int.reduceLE, Int.reduceAdd, Int.reduceSub, Int.reduceMul, Int.reduceNeg, Int.reduceToNat]
    refine wcond_dec (fun h5 => ?_) (fun h5 => ?_)
    · have hlt : i < r.length := by omega
      have hml := hd _ (mem_getD hlt)
      have hdig := hall _ (mem_getD hlt)
      simp only [areDig, Bool.and_eq_true, decide_eq_true_eq] at hdig
      have hcv := (cordAt_val hv (n := i) (by omega)).1
      simp (config := { failIfUnchanged := false }) (disch := first | omega | (simp [wcs_len] <;> omega) | fail) only [go_sem, ↓reduceIte, reduceCtorEq, Nat.reduceEqDiff, Nat.reduceAdd, Nat.reduceMul, Nat.reduceSub, Nat.reduceLeDiff, Int.reduceEq, Int.reduceLT, Int.reduceLE, Int.reduceAdd, Int.reduceSub, Int.reduceMul, Int.reduceNeg, Int.reduceToNat]
      refine wcall (c32 b i (by omega)) ?_
      simp (config := { failIfUnchanged := false }) (disch := first | omega | (simp [wcs_len] <;> omega) | fail) only [go_sem, ↓reduceIte, reduceCtorEq, Nat.reduceEqDiff, Nat.reduceAdd, Nat.reduceMul, Nat.reduceSub, Nat.reduceLeDiff, Int.reduceEq, Int.reduceLT, Int.reduceLE, Int.reduceAdd, Int.reduceSub, Int.reduceMul, Int.reduceNeg, Int.reduceToNat]
      refine wcall (c99 _ _ (by have := hv.hp; omega) (by omega)) ?_
      simp (config := { failIfUnchanged := false }) (disch := first | omega | (simp [wcs_len] <;> omega) | fail) only [go_sem, ↓reduceIte, reduceCtorEq, Nat.reduceEqDiff, Nat.reduceAdd, Nat.reduceMul, Nat.reduceSub, Nat.reduceLeDiff, Int.reduceEq, Int.reduceLT, Int.reduceLE, Int.reduceAdd, Int.reduceSub, Int.reduceMul, Int.reduceNeg, Int.reduceToNat]
      refine wcond_bool (fun h6 => ?_) (fun h6 => ?_)
      · simp (config := { failIfUnchanged := false }) (disch := first | omega | (simp [wcs_len] <;> omega) | fail) only [go_sem, ↓reduceIte, reduceCtorEq, Nat.reduceEqDiff, Nat.reduceAdd, Nat.reduceMul, Nat.reduceSub, Nat.reduceLeDiff, Int.reduceEq, Int.reduceLT, Int.reduceLE, Int.reduceAdd, Int.reduceSub, Int.reduceMul, Int.reduceNeg, Int.reduceToNat]
        have : (List.range r.length).all (fun i => fitsL (cordAt b i) (r[i]?.getD default)) = false := List.all_eq_false.2 ⟨i, by simpa using hlt, by simpa using h6⟩
        simp [isRightB, this]
      · simp (config := { failIfUnchanged := false }) (disch := first | omega | (simp [wcs_len] <;> omega) | fail) only [go_sem, ↓reduceIte, reduceCtorEq, Nat.reduceEqDiff, Nat.reduceAdd, Nat.reduceMul, Nat.reduceSub, Nat.reduceLeDiff, Int.reduceEq, Int.reduceLT, Int.reduceLE, Int.reduceAdd, Int.reduceSub, Int.reduceMul, Int.reduceNeg, Int.reduceToNat]
        refine ⟨i + 1, ⟨by omega, fun j hj => ?_⟩, by dsimp only; omega, ?_⟩
        · rcases Nat.lt_or_ge j i with hj2 | hj2
          · exact hpre j hj2
          · have : j = i := by omega
            subst this
            simpa using h6
        · simp (config := { failIfUnchanged := false }) (disch := first | omega | (simp [wcs_len] <;> omega) | fail) only [go_sem, ↓reduceIte, reduceCtorEq, Nat.reduceEqDiff, Nat.reduceAdd, Nat.reduceMul, Nat.reduceSub, Nat.reduceLeDiff, Int.reduceEq, Int.reduceLT, Int.reduceLE, Int.reduceAdd, Int.reduceSub, Int.reduceMul, Int.reduceNeg, Int.reduceToNat]
          simp
    · have e : i = r.length := by omega
      subst e
      simp (config := { failIfUnchanged := false }) (disch := first | omega | (simp [wcs_len] <;> omega) | fail) only [go_sem, ↓reduceIte, reduceCtorEq, Nat.reduceEqDiff, Nat.reduceAdd, Nat.reduceMul, Nat.reduceSub, Nat.reduceLeDiff, Int.reduceEq, Int.reduceLT, Int.reduceLE, Int.reduceAdd, Int.reduceSub, Int.reduceMul, Int.reduceNeg, Int.reduceToNat]
      have : (List.range r.length).all (fun i => fitsL (cordAt b i) (r[i]?.getD default)) = true := List.all_eq_true.2 fun j hj => hpre j (by simpa using hj)
      simp [isRightB, hsum, this]

def rightR (b : Bk) (r : List (List Int)) : Bool × Int := if checkB b then (isRightB b r, 0) else (false, 110)

theorem c60 (b : Bk) (hs : Small b) (r : List (List Int)) (hr : r.length < 9223372036854775808) (hd : ∀ l ∈ r, l.length < 9223372036854775808) : Ctr Try.prog 60 [KB b, RS r] (.tup [.bool (rightR b r).1, .int (rightR b r).2]) := by
  refine ctr_of_wp hmix Try.func60 m60 rfl ?_
  unfold v60 rightR
  simp (config := { failIfUnchanged := false }) (disch := first | omega | (simp [wcs_len] <;> omega) | fail) only [go_sem, ↓reduceIte, reduceCtorEq, Nat.reduceEqDiff, Nat.reduceAdd, Nat.reduceMul, Nat.reduceSub, Nat.reduceLeDiff, Int.reduceEq, Int.reduceLT, Int.reduceLE, Int.reduceAdd, Int.reduceSub, Int.reduceMul, Int.reduceNeg, Int.reduceToNat]
  refine wcall (c50 b hs) ?_
  cases hc : checkB b with
  | false => simp (config := { failIfUnchanged := false }) (disch := first | omega | (simp [wcs_len] <;> omega) | fail) only [go_sem, ↓reduceIte, reduceCtorEq, Nat.reduceEqDiff, Nat.reduceAdd, Nat.reduceMul, Nat.reduceSub, Nat.reduceLeDiff, Int.reduceEq, Int.reduceLT, Int.reduceLE, Int.reduceAdd, Int.reduceSub, Int.reduceMul, Int.reduceNeg, Int.reduceToNat]
  | true =>
    simp (config := { failIfUnchanged := false }) (disch := first | omega | (simp [wcs_len] <;> omega) | fail) only [go_sem, ↓reduceIte, reduceCtorEq, Nat.reduceEqDiff, Nat.reduceAdd, Nat.reduceMul, Nat.reduceSub, Nat.reduceLeDiff, Int.reduceEq, Int.reduceLT, Int.reduceLE, Int.reduceAdd, Int.reduceSub, Int.reduceMul, Int.reduceNeg, Int.reduceToNat]
    refine wcall (c61 b (val_of_check hc) hs r hr hd) ?_
    simp (config := { failIfUnchanged := false }) (disch := first | omega | (simp [wcs_len] <;> omega) | fail) only [go_sem, ↓reduceIte, reduceCtorEq, Nat.reduceEqDiff, Nat.reduceAdd, Nat.reduceMul, Nat.reduceSub, Nat.reduceLeDiff, Int.reduceEq, Int.reduceLT, Int.reduceLE, Int.reduceAdd, Int.reduceSub, Int.reduceMul, Int.reduceNeg, Int.reduceToNat]

end Go.Proofs.Ytkkiipjfbebipaa

/- The program's Right. -/
set_option linter.unusedSimpArgs false
set_option linter.unusedVariables false
set_option linter.unnecessarySimpa false
namespace Go.Proofs.Ytkkiipjfbebipaa
open Go Go.V

theorem numL_bd {base : Int} (hb : 2 ≤ base ∧ base ≤ 10) : ∀ (l : List Int) (k : Nat) (n : Int), (∀ d ∈ l, 0 ≤ d ∧ d < base) → 0 ≤ n → n < ((10 ^ k : Nat) : Int) → k + l.length ≤ 4 →
    0 ≤ l.foldl (fun n d => w64 (w64 (n * base) + d)) n ∧ l.foldl (fun n d => w64 (w64 (n * base) + d)) n < ((10 ^ (k + l.length) : Nat) : Int)
  | [], k, n, _, h1, h2, _ => ⟨h1, h2⟩
  | d :: r, k, n, hd, h1, h2, hk => by
    simp only [List.length_cons] at hk
    have h10 : 10 ^ k ≤ 1000 := by
      have : k = 0 ∨ k = 1 ∨ k = 2 ∨ k = 3 := by omega
      rcases this with rfl | rfl | rfl | rfl <;> decide
    obtain ⟨d1, d2⟩ := hd d (by simp)
    have m1 : 0 ≤ n * base := Int.mul_nonneg h1 (by omega)
    have m2 : n * base ≤ n * 10 := Int.mul_le_mul_of_nonneg_left hb.2 h1
    have e1 : w64 (n * base) = n * base := w64_id (by omega)
    have e2 : w64 (n * base + d) = n * base + d := w64_id (by omega)
    have h3 : n * base + d < ((10 ^ (k + 1) : Nat) : Int) := by
      rw [Nat.pow_succ]
      omega
    have := numL_bd hb r (k + 1) (n * base + d) (fun x hx => hd x (by simp [hx])) (by omega) h3 (by omega)
    simp only [List.foldl_cons, e1, e2, List.length_cons]
    rw [show k + (r.length + 1) = k + 1 + r.length by omega]
    exact this

theorem numL_dig {b : Bk} (hv : Val b) {l : List Int} (h : areDig b l = true) : 0 ≤ numL b.base l ∧ numL b.base l < 10000 := by
  have hp := hv.hp
  have hbb := hv.hb
  simp only [areDig, Bool.and_eq_true, decide_eq_true_eq, Bool.not_eq_true', List.any_eq_false] at h
  obtain ⟨h1, h2⟩ := h
  have := numL_bd hv.hb l 0 0 (fun d hd => by
    have := h2 d hd
    rw [w64_id (by omega)] at this
    simp only [within, Bool.not_eq_true', Bool.and_eq_false_iff, decide_eq_false_iff_not, Bool.not_eq_false, Bool.and_eq_true, decide_eq_true_eq] at this
    omega) (by omega) (by simp) (by omega)
  refine ⟨this.1, Int.lt_of_lt_of_le this.2 ?_⟩
  have h4 : (10 : Nat) ^ (0 + l.length) ≤ 10 ^ 4 := Nat.pow_le_pow_right (by omega) (by omega)
  have : (10 : Nat) ^ 4 = 10000 := by decide
  omega

theorem sumW_bd {b : Bk} (hv : Val b) : ∀ (r : List (List Int)) (n : Int), (∀ l ∈ r, areDig b l = true) → 0 ≤ n → n + 10000 * r.length ≤ 9000000000 →
    0 ≤ r.foldl (fun n x => w64 (n + numL b.base x)) n ∧ r.foldl (fun n x => w64 (n + numL b.base x)) n ≤ n + 10000 * r.length
  | [], n, _, h, _ => by simp [h]
  | x :: r, n, hd, h, hn => by
    simp only [List.length_cons] at hn
    obtain ⟨d1, d2⟩ := numL_dig hv (hd x (by simp))
    have e : w64 (n + numL b.base x) = n + numL b.base x := w64_id (by omega)
    have := sumW_bd hv r (n + numL b.base x) (fun l hl => hd l (by simp [hl])) (by omega) (by omega)
    simp only [List.foldl_cons, e, List.length_cons]
    omega

/-- What the program looks at of a list of digits. -/
def okAt (b : Bk) (i : Nat) (l : List Int) : Bool := decide ((l.length : Int) = b.places) && (List.range l.length).all fun p => within (l[p]?.getD default) ((cordAt b i)[p]?.getD default).lo ((cordAt b i)[p]?.getD default).hi

theorem okAt_eq {b : Bk} (hv : Val b) {i : Nat} (hi : i ≤ b.cords.length) (l : List Int) : okAt b i l = (areDig b l && fitsL (cordAt b i) l) := by
  obtain ⟨h1, h2⟩ := cordAt_val hv hi
  have hbb := hv.hb
  unfold okAt areDig fitsL
  by_cases hl : (l.length : Int) = b.places
  · have hcl : (cordAt b i).length = l.length := by omega
    rw [hcl]
    have e : (List.range l.length).all (fun p => within (l[p]?.getD default) ((cordAt b i)[p]?.getD default).lo ((cordAt b i)[p]?.getD default).hi) = true → (l.any fun d => !within d 0 (w64 (b.base - 1))) = false := by
      intro h
      rw [List.all_eq_true] at h
      rw [List.any_eq_false]
      intro d hd
      obtain ⟨p, hp, rfl⟩ := List.mem_iff_getElem.1 hd
      have := h p (by simpa using hp)
      rw [List.getElem?_eq_getElem hp] at this
      obtain ⟨s1, s2, s3⟩ := h2 _ (mem_getD (show p < (cordAt b i).length by omega))
      rw [w64_id (by omega)]
      simp only [within, Option.getD_some, Bool.and_eq_true, decide_eq_true_eq, Bool.not_eq_true', Bool.not_eq_false] at this ⊢
      omega
    simp only [hl, decide_true, Bool.true_and]
    cases hx : (List.range l.length).all (fun p => within (l[p]?.getD default) ((cordAt b i)[p]?.getD default).lo ((cordAt b i)[p]?.getD default).hi) with
    | true => simp [e hx]
    | false => simp
  · simp [hl]

/-- Of a valid book, the lists that are a right reading. -/
theorem right_eq {b : Bk} (hv : Val b) (hs : b.cords.length ≤ 1000) (r : List (List Int)) (hlen : r.length = b.cords.length + 1) (h : ∀ i, i < r.length → okAt b i (r[i]?.getD default) = true) :
    isRightB b r = decide (w64 (sumW b.base (r.take b.cords.length) - numL b.base (r[b.cords.length]?.getD default)) = 0) := by
  have hd : ∀ l ∈ r, areDig b l = true := by
    intro l hl
    obtain ⟨i, hi, rfl⟩ := List.mem_iff_getElem.1 hl
    have := h i hi
    rw [okAt_eq hv (by omega), Bool.and_eq_true, List.getElem?_eq_getElem hi] at this
    exact this.1
  have hf : ((List.range r.length).all fun i => fitsL (cordAt b i) (r[i]?.getD default)) = true := by
    rw [List.all_eq_true]
    intro i hi
    have hi' : i < r.length := by simpa using hi
    have := h i hi'
    rw [okAt_eq hv (by omega), Bool.and_eq_true] at this
    exact this.2
  have ha : r.all (areDig b) = true := List.all_eq_true.2 hd
  obtain ⟨t1, t2⟩ := numL_dig hv (hd _ (mem_getD (show b.cords.length < r.length by omega)))
  obtain ⟨u1, u2⟩ := sumW_bd hv (r.take b.cords.length) 0 (fun l hl => hd l (List.mem_of_mem_take hl)) (by omega) (by simp; omega)
  have u3 : 0 ≤ sumW b.base (r.take b.cords.length) := u1
  have u4 : sumW b.base (r.take b.cords.length) ≤ 10000000 := by
    have : sumW b.base (r.take b.cords.length) ≤ 0 + 10000 * ((r.take b.cords.length).length : Int) := u2
    simp only [List.length_take] at this
    omega
  rw [w64_id (by omega)]
  simp only [isRightB, isSumB, hlen, decide_true, Bool.true_and, ha]
  rw [hlen] at hf
  rw [hf, Bool.and_true, decide_eq_decide]
  omega

theorem right_no {b : Bk} (hv : Val b) (r : List (List Int)) (i : Nat) (hi : i < r.length) (h : okAt b i (r[i]?.getD default) = false) : isRightB b r = false := by
  cases hx : isRightB b r with
  | false => rfl
  | true =>
    simp only [isRightB, isSumB, Bool.and_eq_true, decide_eq_true_eq, List.all_eq_true] at hx
    obtain ⟨⟨h1, h2, _⟩, h3⟩ := hx
    rw [okAt_eq hv (by omega), h2 _ (mem_getD hi), h3 i (by simpa using hi)] at h
    simp at h

end Go.Proofs.Ytkkiipjfbebipaa

/- The program's Right, walked. -/
set_option linter.unusedSimpArgs false
set_option linter.unusedVariables false
set_option linter.unnecessarySimpa false
namespace Go.Proofs.Ytkkiipjfbebipaa
open Go Go.V

/-- What has been added and taken off behind i lists. -/
def accP (b : Bk) (r : List (List Int)) (i : Nat) : Int := if i ≤ b.cords.length then sumW b.base (r.take i) else w64 (sumW b.base (r.take b.cords.length) - numL b.base (r[b.cords.length]?.getD default))

theorem allC_len (b : Bk) : (allC b).length = b.cords.length + 1 := by simp [allC]

theorem c59 (b : Bk) (hs : Small b) (hcs : b.cords.length ≤ 1000) (r : List (List Int)) (hr : r.length < 9223372036854775808) (hd : ∀ l ∈ r, l.length < 4294967296) : Ctr Try.prog 59 [KB b, RS r] (.tup [.bool (rightR b r).1, .int (rightR b r).2]) := by
  refine ctr_of_wp hmix Try.func59 m59 rfl ?_
  unfold v59 rightR
  simp (config := { failIfUnchanged := false }) (disch := first | omega | (simp [wcs_len] <;> omega) | fail) only [go_sem, ↓reduceIte, reduceCtorEq, Nat.reduceEqDiff, Nat.reduceAdd, Nat.reduceMul, Nat.reduceSub, Nat.reduceLeDiff, Int.reduceEq, Int.reduceLT, Int.reduceLE, Int.reduceAdd, Int.reduceSub, Int.reduceMul, Int.reduceNeg, Int.reduceToNat]
  refine wcall (c49 b hs) ?_
  cases hc : checkB b with
  | false => simp (config := { failIfUnchanged := false }) (disch := first | omega | (simp [wcs_len] <;> omega) | fail) only [go_sem, ↓reduceIte, reduceCtorEq, Nat.reduceEqDiff, Nat.reduceAdd, Nat.reduceMul, Nat.reduceSub, Nat.reduceLeDiff, Int.reduceEq, Int.reduceLT, Int.reduceLE, Int.reduceAdd, Int.reduceSub, Int.reduceMul, Int.reduceNeg, Int.reduceToNat]
  | true =>
    have hv := val_of_check hc
    have hcl := hs.cords
    have hal := allC_len b
    simp (config := { failIfUnchanged := false }) (disch := first | omega | (simp [wcs_len] <;> omega) | fail) only [go_sem, ↓reduceIte, reduceCtorEq, Nat.reduceEqDiff, Nat.reduceAdd, Nat.reduceMul, Nat.reduceSub, Nat.reduceLeDiff, Int.reduceEq, Int.reduceLT, Int.reduceLE, Int.reduceAdd, Int.reduceSub, Int.reduceMul, Int.reduceNeg, Int.reduceToNat]
    refine wcall (c66 b hs) ?_
    generalize hA : allC b = A at hal
    simp (config := { failIfUnchanged := false }) (disch := first | omega | (simp [wcs_len] <;> omega) | fail) only [go_sem, ↓reduceIte, reduceCtorEq, Nat.reduceEqDiff, Nat.reduceAdd, Nat.reduceMul, Nat.reduceSub, Nat.reduceLeDiff, Int.reduceEq, Int.reduceLT, Int.reduceLE, Int.reduceAdd, Int.reduceSub, Int.reduceMul, Int.reduceNeg, Int.reduceToNat]
    refine wcond_dec (fun h => ?_) (fun h => ?_)
    · simp (config := { failIfUnchanged := false }) (disch := first | omega | (simp [wcs_len] <;> omega) | fail) only [go_sem, ↓reduceIte, reduceCtorEq, Nat.reduceEqDiff, Nat.reduceAdd, Nat.reduceMul, Nat.reduceSub, Nat.reduceLeDiff, Int.reduceEq, Int.reduceLT, Int.reduceLE, Int.reduceAdd, Int.reduceSub, Int.reduceMul, Int.reduceNeg, Int.reduceToNat]
      have : isRightB b r = false := by
        have : ¬ r.length = b.cords.length + 1 := by omega
        simp [isRightB, isSumB, this]
      simp [this]
    · have hlen : r.length = b.cords.length + 1 := by omega
      have hpl := hv.hp
      simp (config := { failIfUnchanged := false }) (disch := first | omega | (simp [wcs_len] <;> omega) | fail) only [go_sem, ↓reduceIte, reduceCtorEq, Nat.reduceEqDiff, Nat.reduceAdd, Nat.reduceMul, Nat.reduceSub, Nat.reduceLeDiff, Int.reduceEq, Int.reduceLT, Int.reduceLE, Int.reduceAdd, Int.reduceSub, Int.reduceMul, Int.reduceNeg, Int.reduceToNat]
      refine wp_loop' Nat (fun i => ⟨[(2, .ptr 2 0), (7, .sl 1 (A.map SS) .sh), (8, .int (accP b r i)), (26, RS r), (27, .int r.length), (28, .int i)], [(2, ⟨[.int b.base, .int b.places, .sl 1 (b.cords.map SS) .sh, SS b.top], false⟩)], [], none⟩) (fun i => i ≤ r.length ∧ ∀ j, j < i → okAt b j (r[j]?.getD default) = true) (fun i => r.length - i) 0 (by simp) (by simp (config := { failIfUnchanged := false }) (disch := first | omega | (simp [wcs_len] <;> omega) | fail) only [go_sem, ↓reduceIte, reduceCtorEq, Nat.reduceEqDiff, Nat.reduceAdd, Nat.reduceMul, Nat.reduceSub, Nat.reduceLeDiff, Int.reduceEq, Int.reduceLT, Int.reduceLE, Int.reduceAdd, Int.reduceSub, Int.reduceMul, Int.reduceNeg, Int.reduceToNat]; simp [accP, sumW]) ?_
      rintro i ⟨hi, hpre⟩
      simp (config := { failIfUnchanged := false }) (disch := first | omega | (simp [wcs_len] <;> omega) | fail) only [go_sem, ↓reduceIte, reduceCtorEq, Nat.reduceEqDiff, Nat.reduceAdd, Nat.reduceMul, Nat.reduceSub, Nat.reduceLeDiff, Int.reduceEq, Int.reduceLT, Int.reduceLE, Int.reduceAdd, Int.reduceSub, Int.reduceMul, Int.reduceNeg, Int.reduceToNat]
      refine wcond_dec (fun h5 => ?_) (fun h5 => ?_)
      · have hlt : i < r.length := by omega
        have hml := hd _ (mem_getD hlt)
        have hAi : A[i]?.getD default = cordAt b i := by rw [← hA, allC_at i (by omega)]
        have hcv := (cordAt_val hv (n := i) (by omega)).1
        have hno : ∀ p, p < (r[i]?.getD default).length → ((r[i]?.getD default).length : Int) = b.places → within ((r[i]?.getD default)[p]?.getD default) ((cordAt b i)[p]?.getD default).lo ((cordAt b i)[p]?.getD default).hi = false → isRightB b r = false := by
          intro p hp _ hw
          refine right_no hv r i hlt ?_
          unfold okAt
          rw [Bool.and_eq_false_iff]
          right
          exact List.all_eq_false.2 ⟨p, by simpa using hp, by simpa using hw⟩
        have hno2 : ¬ ((r[i]?.getD default).length : Int) = b.places → isRightB b r = false := by
          intro hp
          refine right_no hv r i hlt ?_
          unfold okAt
          simp [hp]
        have hyes : ((r[i]?.getD default).length : Int) = b.places → (∀ p, p < (r[i]?.getD default).length → within ((r[i]?.getD default)[p]?.getD default) ((cordAt b i)[p]?.getD default).lo ((cordAt b i)[p]?.getD default).hi = true) → okAt b i (r[i]?.getD default) = true := by
          intro hp hw
          unfold okAt
          rw [Bool.and_eq_true, decide_eq_true_eq, List.all_eq_true]
          exact ⟨hp, fun p hp => hw p (by simpa using hp)⟩
        have hnext : okAt b i (r[i]?.getD default) = true → ∀ j, j < i + 1 → okAt b j (r[j]?.getD default) = true := by
          intro ho j hj
          rcases Nat.lt_or_ge j i with hj2 | hj2
          · exact hpre j hj2
          · have : j = i := by omega
            subst this
            exact ho
        have hacc1 : i < b.cords.length → accP b r (i + 1) = w64 (accP b r i + numL b.base (r[i]?.getD default)) := by
          intro hib
          unfold accP
          rw [if_pos (by omega), if_pos (by omega), List.take_add_one, List.getElem?_eq_getElem hlt]
          exact sumW_snoc _ _ _
        have hacc2 : ¬ i < b.cords.length → accP b r (i + 1) = w64 (accP b r i - numL b.base (r[i]?.getD default)) := by
          intro hib
          have : i = b.cords.length := by omega
          subst this
          unfold accP
          rw [if_neg (by omega), if_pos (by omega)]
        generalize hl : r[i]?.getD default = l at *
        generalize hcd : cordAt b i = cd at *
        simp (config := { failIfUnchanged := false }) (disch := first | omega | (simp [wcs_len] <;> omega) | fail) only [go_sem, ↓reduceIte, reduceCtorEq, Nat.reduceEqDiff, Nat.reduceAdd, Nat.reduceMul, Nat.reduceSub, Nat.reduceLeDiff, Int.reduceEq, Int.reduceLT, Int.reduceLE, Int.reduceAdd, Int.reduceSub, Int.reduceMul, Int.reduceNeg, Int.reduceToNat, hl]
        refine wcond_dec (fun h6 => ?_) (fun h6 => ?_)
        · simp (config := { failIfUnchanged := false }) (disch := first | omega | (simp [wcs_len] <;> omega) | fail) only [go_sem, ↓reduceIte, reduceCtorEq, Nat.reduceEqDiff, Nat.reduceAdd, Nat.reduceMul, Nat.reduceSub, Nat.reduceLeDiff, Int.reduceEq, Int.reduceLT, Int.reduceLE, Int.reduceAdd, Int.reduceSub, Int.reduceMul, Int.reduceNeg, Int.reduceToNat]
          simp [hno2 (by simpa using h6)]
        · have hll : (l.length : Int) = b.places := by simpa using h6
          simp (config := { failIfUnchanged := false }) (disch := first | omega | (simp [wcs_len] <;> omega) | fail) only [go_sem, ↓reduceIte, reduceCtorEq, Nat.reduceEqDiff, Nat.reduceAdd, Nat.reduceMul, Nat.reduceSub, Nat.reduceLeDiff, Int.reduceEq, Int.reduceLT, Int.reduceLE, Int.reduceAdd, Int.reduceSub, Int.reduceMul, Int.reduceNeg, Int.reduceToNat]
          refine wp_loop' Nat (fun p => ⟨[(2, .ptr 2 0), (7, .sl 1 (A.map SS) .sh), (8, .int (accP b r i)), (9, .int i), (10, IS l), (26, RS r), (27, .int r.length), (28, .int i), (38, IS l), (39, .int l.length), (40, .int p)], [(2, ⟨[.int b.base, .int b.places, .sl 1 (b.cords.map SS) .sh, SS b.top], false⟩)], [], none⟩) (fun p => p ≤ l.length ∧ ∀ j, j < p → within (l[j]?.getD default) (cd[j]?.getD default).lo (cd[j]?.getD default).hi = true) (fun p => l.length - p) 0 (by simp) (by simp (config := { failIfUnchanged := false }) (disch := first | omega | (simp [wcs_len] <;> omega) | fail) only [go_sem, ↓reduceIte, reduceCtorEq, Nat.reduceEqDiff, Nat.reduceAdd, Nat.reduceMul, Nat.reduceSub, Nat.reduceLeDiff, Int.reduceEq, Int.reduceLT, Int.reduceLE, Int.reduceAdd, Int.reduceSub, Int.reduceMul, Int.reduceNeg, Int.reduceToNat]; simp) ?_
          rintro p ⟨hp, hpre2⟩
          simp (config := { failIfUnchanged := false }) (disch := first | omega | (simp [wcs_len] <;> omega) | fail) only [go_sem, ↓reduceIte, reduceCtorEq, Nat.reduceEqDiff, Nat.reduceAdd, Nat.reduceMul, Nat.reduceSub, Nat.reduceLeDiff, Int.reduceEq, Int.reduceLT, Int.reduceLE, Int.reduceAdd, Int.reduceSub, Int.reduceMul, Int.reduceNeg, Int.reduceToNat]
          refine wcond_dec (fun h7 => ?_) (fun h7 => ?_)
          · have hplt : p < l.length := by omega
            simp (config := { failIfUnchanged := false }) (disch := first | omega | (simp [wcs_len] <;> omega) | fail) only [go_sem, ↓reduceIte, reduceCtorEq, Nat.reduceEqDiff, Nat.reduceAdd, Nat.reduceMul, Nat.reduceSub, Nat.reduceLeDiff, Int.reduceEq, Int.reduceLT, Int.reduceLE, Int.reduceAdd, Int.reduceSub, Int.reduceMul, Int.reduceNeg, Int.reduceToNat, hAi]
            refine wcall (c86 _ _ _) ?_
            simp (config := { failIfUnchanged := false }) (disch := first | omega | (simp [wcs_len] <;> omega) | fail) only [go_sem, ↓reduceIte, reduceCtorEq, Nat.reduceEqDiff, Nat.reduceAdd, Nat.reduceMul, Nat.reduceSub, Nat.reduceLeDiff, Int.reduceEq, Int.reduceLT, Int.reduceLE, Int.reduceAdd, Int.reduceSub, Int.reduceMul, Int.reduceNeg, Int.reduceToNat]
            refine wcond_bool (fun h8 => ?_) (fun h8 => ?_)
            · simp (config := { failIfUnchanged := false }) (disch := first | omega | (simp [wcs_len] <;> omega) | fail) only [go_sem, ↓reduceIte, reduceCtorEq, Nat.reduceEqDiff, Nat.reduceAdd, Nat.reduceMul, Nat.reduceSub, Nat.reduceLeDiff, Int.reduceEq, Int.reduceLT, Int.reduceLE, Int.reduceAdd, Int.reduceSub, Int.reduceMul, Int.reduceNeg, Int.reduceToNat]
              simp [hno p hplt hll (by simpa using h8)]
            · simp (config := { failIfUnchanged := false }) (disch := first | omega | (simp [wcs_len] <;> omega) | fail) only [go_sem, ↓reduceIte, reduceCtorEq, Nat.reduceEqDiff, Nat.reduceAdd, Nat.reduceMul, Nat.reduceSub, Nat.reduceLeDiff, Int.reduceEq, Int.reduceLT, Int.reduceLE, Int.reduceAdd, Int.reduceSub, Int.reduceMul, Int.reduceNeg, Int.reduceToNat]
              refine ⟨p + 1, ⟨by omega, fun j hj => ?_⟩, by dsimp only; omega, ?_⟩
              · rcases Nat.lt_or_ge j p with hj2 | hj2
                · exact hpre2 j hj2
                · have : j = p := by omega
                  subst this
                  simpa using h8
              · simp (config := { failIfUnchanged := false }) (disch := first | omega | (simp [wcs_len] <;> omega) | fail) only [go_sem, ↓reduceIte, reduceCtorEq, Nat.reduceEqDiff, Nat.reduceAdd, Nat.reduceMul, Nat.reduceSub, Nat.reduceLeDiff, Int.reduceEq, Int.reduceLT, Int.reduceLE, Int.reduceAdd, Int.reduceSub, Int.reduceMul, Int.reduceNeg, Int.reduceToNat]
                simp
          · have e : p = l.length := by omega
            subst e
            simp (config := { failIfUnchanged := false }) (disch := first | omega | (simp [wcs_len] <;> omega) | fail) only [go_sem, ↓reduceIte, reduceCtorEq, Nat.reduceEqDiff, Nat.reduceAdd, Nat.reduceMul, Nat.reduceSub, Nat.reduceLeDiff, Int.reduceEq, Int.reduceLT, Int.reduceLE, Int.reduceAdd, Int.reduceSub, Int.reduceMul, Int.reduceNeg, Int.reduceToNat]
            refine wcall (c81 b.base l (by omega)) ?_
            simp (config := { failIfUnchanged := false }) (disch := first | omega | (simp [wcs_len] <;> omega) | fail) only [go_sem, ↓reduceIte, reduceCtorEq, Nat.reduceEqDiff, Nat.reduceAdd, Nat.reduceMul, Nat.reduceSub, Nat.reduceLeDiff, Int.reduceEq, Int.reduceLT, Int.reduceLE, Int.reduceAdd, Int.reduceSub, Int.reduceMul, Int.reduceNeg, Int.reduceToNat]
            refine wcond_dec (fun h8 => ?_) (fun h8 => ?_)
            · simp (config := { failIfUnchanged := false }) (disch := first | omega | (simp [wcs_len] <;> omega) | fail) only [go_sem, ↓reduceIte, reduceCtorEq, Nat.reduceEqDiff, Nat.reduceAdd, Nat.reduceMul, Nat.reduceSub, Nat.reduceLeDiff, Int.reduceEq, Int.reduceLT, Int.reduceLE, Int.reduceAdd, Int.reduceSub, Int.reduceMul, Int.reduceNeg, Int.reduceToNat]
              refine ⟨i + 1, ⟨by omega, hnext (hyes hll hpre2)⟩, by dsimp only; omega, ?_⟩
              dsimp only
              rw [hacc1 (by omega)]
              simp (config := { failIfUnchanged := false }) (disch := first | omega | (simp [wcs_len] <;> omega) | fail) only [go_sem, ↓reduceIte, reduceCtorEq, Nat.reduceEqDiff, Nat.reduceAdd, Nat.reduceMul, Nat.reduceSub, Nat.reduceLeDiff, Int.reduceEq, Int.reduceLT, Int.reduceLE, Int.reduceAdd, Int.reduceSub, Int.reduceMul, Int.reduceNeg, Int.reduceToNat]
              simp
            · simp (config := { failIfUnchanged := false }) (disch := first | omega | (simp [wcs_len] <;> omega) | fail) only [go_sem, ↓reduceIte, reduceCtorEq, Nat.reduceEqDiff, Nat.reduceAdd, Nat.reduceMul, Nat.reduceSub, Nat.reduceLeDiff, Int.reduceEq, Int.reduceLT, Int.reduceLE, Int.reduceAdd, Int.reduceSub, Int.reduceMul, Int.reduceNeg, Int.reduceToNat]
              refine ⟨i + 1, ⟨by omega, hnext (hyes hll hpre2)⟩, by dsimp only; omega, ?_⟩
              dsimp only
              rw [hacc2 (by omega)]
              simp (config := { failIfUnchanged := false }) (disch := first | omega | (simp [wcs_len] <;> omega) | fail) only [go_sem, ↓reduceIte, reduceCtorEq, Nat.reduceEqDiff, Nat.reduceAdd, Nat.reduceMul, Nat.reduceSub, Nat.reduceLeDiff, Int.reduceEq, Int.reduceLT, Int.reduceLE, Int.reduceAdd, Int.reduceSub, Int.reduceMul, Int.reduceNeg, Int.reduceToNat]
              simp
      · have e : i = r.length := by omega
        subst e
        simp (config := { failIfUnchanged := false }) (disch := first | omega | (simp [wcs_len] <;> omega) | fail) only [go_sem, ↓reduceIte, reduceCtorEq, Nat.reduceEqDiff, Nat.reduceAdd, Nat.reduceMul, Nat.reduceSub, Nat.reduceLeDiff, Int.reduceEq, Int.reduceLT, Int.reduceLE, Int.reduceAdd, Int.reduceSub, Int.reduceMul, Int.reduceNeg, Int.reduceToNat]
        rw [right_eq hv hcs r hlen (fun i hi => hpre i hi)]
        have : accP b r r.length = w64 (sumW b.base (r.take b.cords.length) - numL b.base (r[b.cords.length]?.getD default)) := by
          unfold accP
          rw [if_neg (by omega)]
        rw [this]
        try simp

end Go.Proofs.Ytkkiipjfbebipaa

/- Sure, Cluster and Carry by the list of right readings. -/
set_option linter.unusedSimpArgs false
set_option linter.unusedVariables false
set_option linter.unnecessarySimpa false
namespace Go.Proofs.Ytkkiipjfbebipaa
open Go Go.V

def spF (base : Int) (Q : Nat → Prop) [DecidablePred Q] (m : Nat) : Sp := (List.range m).foldl (fun s d => if Q d then ⟨min s.lo d, max s.hi d⟩ else s) ⟨base, 0⟩

theorem spF_spec (base : Int) (Q : Nat → Prop) [DecidablePred Q] : ∀ m : Nat, (m : Int) ≤ base →
    ((∀ d, d < m → ¬ Q d) ∧ spF base Q m = ⟨base, 0⟩) ∨ ∃ lo hi : Nat, lo < m ∧ hi < m ∧ Q lo ∧ Q hi ∧ spF base Q m = ⟨lo, hi⟩ ∧ ∀ d, d < m → Q d → lo ≤ d ∧ d ≤ hi
  | 0, _ => .inl ⟨fun d hd => by omega, by simp [spF]⟩
  | m + 1, hm => by
    have e : spF base Q (m + 1) = if Q m then ⟨min (spF base Q m).lo m, max (spF base Q m).hi m⟩ else spF base Q m := by
      unfold spF
      rw [List.range_succ, List.foldl_append]
      rfl
    rw [e]
    rcases spF_spec base Q m (by omega) with ⟨h1, h2⟩ | ⟨lo, hi, h1, h2, h3, h4, h5, h6⟩
    · by_cases hq : Q m
      · refine .inr ⟨m, m, by omega, by omega, hq, hq, ?_, ?_⟩
        · rw [if_pos hq, h2, Sp.mk.injEq]
          dsimp only
          omega
        · intro d hd hqd
          rcases Nat.lt_or_ge d m with h | h
          · exact absurd hqd (h1 d h)
          · omega
      · refine .inl ⟨fun d hd hqd => ?_, by rw [if_neg hq, h2]⟩
        rcases Nat.lt_or_ge d m with h | h
        · exact h1 d h hqd
        · have : d = m := by omega
          subst this; exact hq hqd
    · by_cases hq : Q m
      · refine .inr ⟨lo, m, by omega, by omega, h3, hq, ?_, ?_⟩
        · rw [if_pos hq, h5, Sp.mk.injEq]
          dsimp only
          omega
        · intro d hd hqd
          rcases Nat.lt_or_ge d m with h | h
          · have := h6 d h hqd; omega
          · omega
      · refine .inr ⟨lo, hi, by omega, by omega, h3, h4, by rw [if_neg hq, h5], fun d hd hqd => ?_⟩
        rcases Nat.lt_or_ge d m with h | h
        · exact h6 d h hqd
        · have : d = m := by omega
          subst this; exact absurd hqd hq

theorem manyR_pos {b : Bk} {L : List (List Nat)} {may : Nat → Nat → Nat → Bool} {carry : Nat → Nat → Bool} {c p d : Nat} (hc : c ≤ b.cords.length) (hp : p < b.places.toNat) :
    0 < manyR b L may carry c p d ↔ ∃ l ∈ L, allOK b may carry l = true ∧ dgN b l c p = d := by
  unfold manyR
  have : 0 < ((sumF L fun l => if allOK b (onlyF may c p d) carry l then 1 else 0 : Nat) : Int) ↔ 0 < sumF L fun l => if allOK b (onlyF may c p d) carry l then 1 else 0 := by omega
  rw [this, sumF_pos]
  constructor
  · rintro ⟨l, hl, h⟩
    refine ⟨l, hl, ?_⟩
    split at h
    · next h2 => rwa [allOK_only hc hp, Bool.and_eq_true, decide_eq_true_eq] at h2
    · omega
  · rintro ⟨l, hl, h1, h2⟩
    refine ⟨l, hl, ?_⟩
    rw [allOK_only hc hp, h1, h2]
    simp

/-- The span of the digits of a cluster in the readings that may be. -/
theorem spanR_spec {b : Bk} (hv : Val b) {L : List (List Nat)} {may : Nat → Nat → Nat → Bool} {carry : Nat → Nat → Bool} {c p : Nat} (hc : c ≤ b.cords.length) (hp : p < b.places.toNat)
    (hne : ∃ l ∈ L, allOK b may carry l = true) :
    ∃ lo hi : Nat, lo < b.base.toNat ∧ hi < b.base.toNat ∧ spanR b L may carry c p b.base.toNat = ⟨lo, hi⟩ ∧ (∃ l ∈ L, allOK b may carry l = true ∧ dgN b l c p = lo) ∧ (∃ l ∈ L, allOK b may carry l = true ∧ dgN b l c p = hi) ∧
      ∀ l ∈ L, allOK b may carry l = true → lo ≤ dgN b l c p ∧ dgN b l c p ≤ hi := by
  have hB : 0 < b.base.toNat := by have := hv.hb; omega
  have e : spanR b L may carry c p b.base.toNat = spF b.base (fun d => 0 < manyR b L may carry c p d) b.base.toNat := rfl
  rcases spF_spec b.base (fun d => 0 < manyR b L may carry c p d) b.base.toNat (by omega) with ⟨h1, _⟩ | ⟨lo, hi, h1, h2, h3, h4, h5, h6⟩
  · obtain ⟨l, hl, h⟩ := hne
    exact absurd ((manyR_pos hc hp).2 ⟨l, hl, h, rfl⟩) (h1 _ (Nat.mod_lt _ hB))
  · refine ⟨lo, hi, h1, h2, by rw [e, h5], (manyR_pos hc hp).1 h3, (manyR_pos hc hp).1 h4, fun l hl h => ?_⟩
    exact h6 _ (Nat.mod_lt _ hB) ((manyR_pos hc hp).2 ⟨l, hl, h, rfl⟩)

theorem spanL_spec (l : List Int) (h : 0 < l.length) : ∀ m, 0 < m → m ≤ l.length → (∃ x ∈ l.take m, (spanL l m).lo = x) ∧ (∃ x ∈ l.take m, (spanL l m).hi = x) ∧ ∀ x ∈ l.take m, (spanL l m).lo ≤ x ∧ x ≤ (spanL l m).hi
  | 0, h0, _ => by omega
  | m + 1, _, hm => by
    have e : spanL l (m + 1) = ⟨min (spanL l m).lo (l[m]?.getD default), max (spanL l m).hi (l[m]?.getD default)⟩ := by
      unfold spanL
      rw [take_snoc (by omega), List.foldl_append]
      rfl
    rw [e, take_snoc (show m < l.length by omega)]
    generalize hx : l[m]?.getD default = x
    rcases Nat.eq_zero_or_pos m with h0 | h0
    · subst h0
      have e0 : spanL l 0 = ⟨x, x⟩ := by
        unfold spanL
        rw [List.take_zero, List.foldl_nil, hx]
      rw [e0]
      refine ⟨⟨x, by simp, by dsimp only; omega⟩, ⟨x, by simp, by dsimp only; omega⟩, fun y hy => ?_⟩
      simp only [List.take_zero, List.nil_append, List.mem_singleton] at hy
      subst hy
      dsimp only
      omega
    · obtain ⟨⟨u, hu, h1⟩, ⟨v, hv, h2⟩, h3⟩ := spanL_spec l h m h0 (by omega)
      dsimp only
      refine ⟨?_, ?_, fun y hy => ?_⟩
      · rcases Int.lt_or_le x (spanL l m).lo with h | h
        · exact ⟨x, by simp, by omega⟩
        · exact ⟨u, by simp [hu], by omega⟩
      · rcases Int.lt_or_le (spanL l m).hi x with h | h
        · exact ⟨x, by simp, by omega⟩
        · exact ⟨v, by simp [hv], by omega⟩
      · rcases List.mem_append.1 hy with hy | hy
        · have := h3 y hy
          omega
        · simp only [List.mem_singleton] at hy
          subst hy
          omega

/-- What is the span of a list. -/
theorem spanL_uniq {l : List Int} {lo hi : Int} (h1 : lo ∈ l) (h2 : hi ∈ l) (h3 : ∀ x ∈ l, lo ≤ x ∧ x ≤ hi) : spanL l l.length = ⟨lo, hi⟩ := by
  have h0 : 0 < l.length := List.length_pos_of_mem h1
  obtain ⟨⟨u, hu, e1⟩, ⟨v, hv, e2⟩, e3⟩ := spanL_spec l h0 l.length h0 (Nat.le_refl _)
  rw [List.take_length] at hu hv e3
  have a1 := h3 u hu
  have a2 := h3 v hv
  have a3 := e3 lo h1
  have a4 := e3 hi h2
  generalize spanL l l.length = s at *
  obtain ⟨x, y⟩ := s
  rw [Sp.mk.injEq]
  dsimp only at *
  omega

theorem cluster_eq {b : Bk} (hv : Val b) {c p : Nat} (hc : c ≤ b.cords.length) (hp : p < b.places.toNat) (hne : 0 < (allNs b).length) :
    spanD b yes3 yes2 c p b.base.toNat = spanL (digS b c p (allNs b).length) (allNs b).length := by
  rw [spanD_R hv]
  have hd : digS b c p (allNs b).length = (allNs b).map fun l => ((dgN b l c p : Nat) : Int) := by
    unfold digS
    rw [List.take_length]
    exact List.map_congr_left fun l _ => tieN_at _ _ _ _ hp
  obtain ⟨lo, hi, _, _, e, ⟨l, hl, _, h1⟩, ⟨k, hk, _, h2⟩, h3⟩ := spanR_spec hv (L := allNs b) (may := yes3) (carry := yes2) hc hp ⟨(allNs b)[0], List.getElem_mem _, allOK_yes b _⟩
  have := spanL_uniq (l := (allNs b).map fun l => ((dgN b l c p : Nat) : Int)) (lo := lo) (hi := hi) (List.mem_map.2 ⟨l, hl, by rw [h1]⟩) (List.mem_map.2 ⟨k, hk, by rw [h2]⟩) (fun x hx => by
    obtain ⟨l, hl, rfl⟩ := List.mem_map.1 hx
    have := h3 l hl (allOK_yes b _)
    omega)
  rw [List.length_map] at this
  rw [e, hd, this]

end Go.Proofs.Ytkkiipjfbebipaa

/- The ends of what a cord has. -/
set_option linter.unusedSimpArgs false
set_option linter.unusedVariables false
set_option linter.unnecessarySimpa false
namespace Go.Proofs.Ytkkiipjfbebipaa
open Go Go.V

theorem numL_two {base : Int} {n e : Nat} (hb : 2 ≤ base ∧ base ≤ 10) (hn : n ≤ 100000) (he : e ≤ 100) : numL base [(n : Int), (e : Int)] = ((n * base.toNat + e : Nat) : Int) := by
  have hB : ((base.toNat : Nat) : Int) = base := by omega
  have h0 : w64 0 = 0 := by decide
  have h1 : n * base.toNat ≤ 100000 * 10 := Nat.mul_le_mul hn (by omega)
  have e1 : (n : Int) * base = ((n * base.toNat : Nat) : Int) := by rw [Int.natCast_mul, hB]
  unfold numL
  simp only [List.foldl_cons, List.foldl_nil, Int.zero_mul, h0, Int.zero_add]
  rw [w64_id (n := (n : Int)) (by omega), e1, w64_id (n := ((n * base.toNat : Nat) : Int)) (by omega), w64_id (by omega)]
  omega

theorem div_step {x N B : Nat} (hN : 0 < N) : x / N = x / (N * B) * B + x / N % B := by
  rw [← Nat.div_div_eq_div_mul, Nat.mul_comm]
  exact (Nat.div_add_mod (x / N) B).symm

theorem endR_lo {b : Bk} (hv : Val b) {L : List (List Nat)} {carry : Nat → Nat → Bool} {cord : Nat} (hc : cord ≤ b.cords.length) (hsm : ∀ l ∈ L, l[cord]?.getD default < allN b) :
    ∀ (k p : Nat) (may : Nat → Nat → Nat → Bool) (n : Nat), p + k = b.places.toNat → (∃ l ∈ L, allOK b may carry l = true) → (∀ l ∈ L, allOK b may carry l = true → l[cord]?.getD default / b.base.toNat ^ k = n) →
      ∃ r : Nat, endR b L carry cord (fun s => s.lo) p k may n = r ∧ (∃ l ∈ L, allOK b may carry l = true ∧ l[cord]?.getD default = r) ∧ ∀ l ∈ L, allOK b may carry l = true → r ≤ l[cord]?.getD default
  | 0, p, may, n, hpk, ⟨l, hl, h⟩, hn => by
    have h1 := hn l hl h
    rw [Nat.pow_zero, Nat.div_one] at h1
    refine ⟨n, rfl, ⟨l, hl, h, h1⟩, fun k hk h2 => ?_⟩
    have := hn k hk h2
    rw [Nat.pow_zero, Nat.div_one] at this
    omega
  | k + 1, p, may, n, hpk, hne, hn => by
    have hB : 0 < b.base.toNat := by have := hv.hb; omega
    have hall := allN_le hv
    obtain ⟨lo, hi, s1, s2, s3, ⟨l0, hl0, hl1, hl2⟩, _, s5⟩ := spanR_spec hv (L := L) (may := may) (carry := carry) hc (show p < b.places.toNat by omega) hne
    have hN : 0 < b.base.toNat ^ k := Nat.pow_pos hB
    have hdg : ∀ l : List Nat, dgN b l cord p = l[cord]?.getD default / b.base.toNat ^ k % b.base.toNat := by
      intro l
      unfold dgN
      rw [show b.places.toNat - 1 - p = k by omega]
    have hdv : ∀ l ∈ L, allOK b may carry l = true → l[cord]?.getD default / b.base.toNat ^ k = n * b.base.toNat + dgN b l cord p := by
      intro l hl h
      rw [hdg, ← hn l hl h, Nat.pow_succ]
      exact div_step hN
    have hnle : n ≤ 10000 := by
      have := hn l0 hl0 hl1
      have h2 := hsm l0 hl0
      have := Nat.div_le_self (l0[cord]?.getD default) (b.base.toNat ^ (k + 1))
      omega
    have hnum := numL_two hv.hb (n := n) (e := lo) (by omega) (by have := hv.hb; omega)
    rw [endR, s3]
    dsimp only
    rw [Int.toNat_natCast, hnum]
    obtain ⟨r, h1, ⟨l, hl, h2, h3⟩, h4⟩ := endR_lo hv (carry := carry) hc hsm k (p + 1) (onlyF may cord p lo) (n * b.base.toNat + lo) (by omega)
      ⟨l0, hl0, by rw [allOK_only hc (by omega), hl1, hl2]; simp⟩ (fun l hl h => by
        rw [allOK_only hc (by omega), Bool.and_eq_true, decide_eq_true_eq] at h
        rw [hdv l hl h.1, h.2])
    refine ⟨r, h1, ⟨l, hl, ?_, h3⟩, fun x hx hx2 => ?_⟩
    · rw [allOK_only hc (by omega), Bool.and_eq_true] at h2
      exact h2.1
    · rcases Nat.lt_or_ge lo (dgN b x cord p) with h | h
      · rw [allOK_only hc (by omega), Bool.and_eq_true, decide_eq_true_eq] at h2
        have d1 := hdv l hl h2.1
        have d2 := hdv x hx hx2
        rw [h2.2] at d1
        have : l[cord]?.getD default / b.base.toNat ^ k < x[cord]?.getD default / b.base.toNat ^ k := by omega
        have := Nat.lt_of_div_lt_div this
        omega
      · have h5 := (s5 x hx hx2).1
        refine h4 x hx ?_
        rw [allOK_only hc (by omega), hx2, Bool.true_and, decide_eq_true_eq]
        omega
theorem endR_hi {b : Bk} (hv : Val b) {L : List (List Nat)} {carry : Nat → Nat → Bool} {cord : Nat} (hc : cord ≤ b.cords.length) (hsm : ∀ l ∈ L, l[cord]?.getD default < allN b) :
    ∀ (k p : Nat) (may : Nat → Nat → Nat → Bool) (n : Nat), p + k = b.places.toNat → (∃ l ∈ L, allOK b may carry l = true) → (∀ l ∈ L, allOK b may carry l = true → l[cord]?.getD default / b.base.toNat ^ k = n) →
      ∃ r : Nat, endR b L carry cord (fun s => s.hi) p k may n = r ∧ (∃ l ∈ L, allOK b may carry l = true ∧ l[cord]?.getD default = r) ∧ ∀ l ∈ L, allOK b may carry l = true → l[cord]?.getD default ≤ r
  | 0, p, may, n, hpk, ⟨l, hl, h⟩, hn => by
    have h1 := hn l hl h
    rw [Nat.pow_zero, Nat.div_one] at h1
    refine ⟨n, rfl, ⟨l, hl, h, h1⟩, fun k hk h2 => ?_⟩
    have := hn k hk h2
    rw [Nat.pow_zero, Nat.div_one] at this
    omega
  | k + 1, p, may, n, hpk, hne, hn => by
    have hB : 0 < b.base.toNat := by have := hv.hb; omega
    have hall := allN_le hv
    obtain ⟨lo, hi, s1, s2, s3, _, ⟨l0, hl0, hl1, hl2⟩, s5⟩ := spanR_spec hv (L := L) (may := may) (carry := carry) hc (show p < b.places.toNat by omega) hne
    have hN : 0 < b.base.toNat ^ k := Nat.pow_pos hB
    have hdg : ∀ l : List Nat, dgN b l cord p = l[cord]?.getD default / b.base.toNat ^ k % b.base.toNat := by
      intro l
      unfold dgN
      rw [show b.places.toNat - 1 - p = k by omega]
    have hdv : ∀ l ∈ L, allOK b may carry l = true → l[cord]?.getD default / b.base.toNat ^ k = n * b.base.toNat + dgN b l cord p := by
      intro l hl h
      rw [hdg, ← hn l hl h, Nat.pow_succ]
      exact div_step hN
    have hnle : n ≤ 10000 := by
      have := hn l0 hl0 hl1
      have h2 := hsm l0 hl0
      have := Nat.div_le_self (l0[cord]?.getD default) (b.base.toNat ^ (k + 1))
      omega
    have hnum := numL_two hv.hb (n := n) (e := hi) (by omega) (by have := hv.hb; omega)
    rw [endR, s3]
    dsimp only
    rw [Int.toNat_natCast, hnum]
    obtain ⟨r, h1, ⟨l, hl, h2, h3⟩, h4⟩ := endR_hi hv (carry := carry) hc hsm k (p + 1) (onlyF may cord p hi) (n * b.base.toNat + hi) (by omega)
      ⟨l0, hl0, by rw [allOK_only hc (by omega), hl1, hl2]; simp⟩ (fun l hl h => by
        rw [allOK_only hc (by omega), Bool.and_eq_true, decide_eq_true_eq] at h
        rw [hdv l hl h.1, h.2])
    refine ⟨r, h1, ⟨l, hl, ?_, h3⟩, fun x hx hx2 => ?_⟩
    · rw [allOK_only hc (by omega), Bool.and_eq_true] at h2
      exact h2.1
    · rcases Nat.lt_or_ge (dgN b x cord p) hi with h | h
      · rw [allOK_only hc (by omega), Bool.and_eq_true, decide_eq_true_eq] at h2
        have d1 := hdv l hl h2.1
        have d2 := hdv x hx hx2
        rw [h2.2] at d1
        have : x[cord]?.getD default / b.base.toNat ^ k < l[cord]?.getD default / b.base.toNat ^ k := by omega
        have := Nat.lt_of_div_lt_div this
        omega
      · have h5 := (s5 x hx hx2).2
        refine h4 x hx ?_
        rw [allOK_only hc (by omega), hx2, Bool.true_and, decide_eq_true_eq]
        omega
theorem sure_eq {b : Bk} (hv : Val b) {c : Nat} (hc : c ≤ b.cords.length) (hne : 0 < (allNs b).length) : sureD b c = spanL (colS b c (allNs b).length) (allNs b).length := by
  have hsm : ∀ l ∈ allNs b, l[c]?.getD default < allN b := by
    intro l hl
    obtain ⟨h1, h2⟩ := allNs_mem hl
    exact h2 _ (mem_getD (by omega))
  have h0 : ∀ l ∈ allNs b, allOK b yes3 yes2 l = true → l[c]?.getD default / b.base.toNat ^ b.places.toNat = 0 := fun l hl _ => Nat.div_eq_of_lt (hsm l hl)
  obtain ⟨x, hx1, ⟨l, hl, _, hl2⟩, hx3⟩ := endR_lo hv (carry := yes2) hc hsm b.places.toNat 0 yes3 0 (by omega) ⟨(allNs b)[0], List.getElem_mem _, allOK_yes b _⟩ h0
  obtain ⟨y, hy1, ⟨k, hk, _, hk2⟩, hy3⟩ := endR_hi hv (carry := yes2) hc hsm b.places.toNat 0 yes3 0 (by omega) ⟨(allNs b)[0], List.getElem_mem _, allOK_yes b _⟩ h0
  have hd : colS b c (allNs b).length = (allNs b).map fun l => ((l[c]?.getD default : Nat) : Int) := by
    unfold colS
    rw [List.take_length]
  have := spanL_uniq (l := (allNs b).map fun l => ((l[c]?.getD default : Nat) : Int)) (lo := x) (hi := y) (List.mem_map.2 ⟨l, hl, by rw [hl2]⟩) (List.mem_map.2 ⟨k, hk, by rw [hk2]⟩) (fun z hz => by
    obtain ⟨l, hl, rfl⟩ := List.mem_map.1 hz
    have := hx3 l hl (allOK_yes b _)
    have := hy3 l hl (allOK_yes b _)
    omega)
  rw [List.length_map] at this
  rw [hd, this]
  unfold sureD
  rw [endF_R hv, endF_R hv]
  have hx1' : endR b (allNs b) yes2 c (fun s => s.lo) 0 b.places.toNat yes3 0 = x := hx1
  have hy1' : endR b (allNs b) yes2 c (fun s => s.hi) 0 b.places.toNat yes3 0 = y := hy1
  rw [hx1', hy1']

end Go.Proofs.Ytkkiipjfbebipaa

/- What is carried: the reference's CarryOf. -/
set_option linter.unusedSimpArgs false
set_option linter.unusedVariables false
set_option linter.unnecessarySimpa false
namespace Go.Proofs.Ytkkiipjfbebipaa
open Go Go.V

def crT (B : Nat) : Nat → List Nat → Nat
  | 0, _ => 0
  | k + 1, t => (crT B k t + (t.map (· / B ^ k % B)).sum) / B

theorem sum_split (N B : Nat) (hN : 0 < N) : ∀ t : List Nat, (t.map (· % (N * B))).sum = (t.map (· / N % B)).sum * N + (t.map (· % N)).sum
  | [] => by simp
  | x :: r => by
    simp only [List.map_cons, List.sum_cons]
    rw [sum_split N B hN r, Nat.add_mul]
    have : x % (N * B) = x / N % B * N + x % N := by
      rw [Nat.mod_mul, Nat.mul_comm]
      omega
    omega

theorem crT_eq {B : Nat} (hB : 0 < B) : ∀ (k : Nat) (t : List Nat), crT B k t = (t.map (· % B ^ k)).sum / B ^ k
  | 0, t => by
    have : (t.map (· % B ^ 0)).sum = 0 := by
      induction t with
      | nil => rfl
      | cons x r ih =>
        rw [List.map_cons, List.sum_cons, ih, Nat.pow_zero, Nat.mod_one]
    rw [this, Nat.zero_div]
    rfl
  | k + 1, t => by
    have hN : 0 < B ^ k := Nat.pow_pos hB
    rw [crT, crT_eq hB k t, Nat.pow_succ, ← Nat.div_div_eq_div_mul, sum_split _ _ hN, Nat.mul_comm _ (B ^ k), Nat.mul_add_div hN, Nat.add_comm]

theorem sum_mod_lt {N : Nat} (hN : 0 < N) : ∀ t : List Nat, (t.map (· % N)).sum ≤ t.length * N
  | [] => by simp
  | x :: r => by
    have := sum_mod_lt hN r
    have := Nat.mod_lt x hN
    simp only [List.map_cons, List.sum_cons, List.length_cons, Nat.add_mul]
    omega

theorem crT_le {B : Nat} (hB : 0 < B) (k : Nat) (t : List Nat) : crT B k t ≤ t.length := by
  rw [crT_eq hB]
  have hN : 0 < B ^ k := Nat.pow_pos hB
  exact Nat.div_le_of_le_mul (by rw [Nat.mul_comm]; exact sum_mod_lt hN t)

theorem carN_cr {b : Bk} (hB : 0 < b.base.toNat) (l : List Nat) (p : Nat) : carN b l p = crT b.base.toNat (b.places.toNat - p) (l.take b.cords.length) := by
  rw [crT_eq hB]
  rfl

theorem dsum_le {B : Nat} (hB : 0 < B) (N : Nat) : ∀ t : List Nat, (t.map (· / N % B)).sum ≤ t.length * B
  | [] => by simp
  | x :: r => by
    have := dsum_le hB N r
    have := Nat.mod_lt (x / N) hB
    simp only [List.map_cons, List.sum_cons, List.length_cons, Nat.add_mul]
    omega

theorem c62 (b : Bk) (hv : Val b) (l : List Nat) (hl : l.length = b.cords.length + 1) (hsm : ∀ x ∈ l, x < allN b) (place : Nat) (hp : place < b.places.toNat) : Ctr Try.prog 62 [KB b, IS (nat l), .int place] (.int (carN b l place)) := by
  refine ctr_of_wp hmix Try.func62 m62 rfl ?_
  unfold v62
  obtain ⟨hb1, hb2⟩ := hv.hb
  obtain ⟨hp1, hp2⟩ := hv.hp
  have hB : 0 < b.base.toNat := by omega
  have hall := allN_le hv
  have hcl := hv.hc
  rw [carN_cr hB]
  obtain ⟨PL, hPL⟩ : ∃ p : Nat, b.places = p := ⟨b.places.toNat, by omega⟩
  have hPn : b.places.toNat = PL := by omega
  rw [hPn] at hp ⊢
  have hnl : (nat l).length = b.cords.length + 1 := by rw [List.length_map]; exact hl
  generalize ht : l.take b.cords.length = t
  have htl : t.length = b.cords.length := by rw [← ht, List.length_take]; omega
  have eq : ∀ n : Nat, Int.tdiv (n : Int) b.base = ((n / b.base.toNat : Nat) : Int) := fun n => by
    obtain ⟨B, hB⟩ : ∃ B : Nat, b.base = B := ⟨b.base.toNat, by omega⟩
    rw [hB]; rfl
  simp (config := { failIfUnchanged := false }) (disch := first | omega | (simp only [List.length_map, List.length_append, List.length_cons, List.length_nil, List.length_take, List.length_drop, cells_int, cells_bool, cells_agg, cells_sl, cells_clo, cells_und, wcs_len, List.length_replicate, List.length_set]; done) | (simp only [List.length_map, List.length_append, List.length_cons, List.length_nil, List.length_take, List.length_drop, cells_int, cells_bool, cells_agg, cells_sl, cells_clo, cells_und, wcs_len, List.length_replicate, List.length_set]; omega)) only [go_sem, ↓reduceIte, reduceCtorEq, Nat.reduceEqDiff, Nat.reduceAdd, Nat.reduceMul, Nat.reduceSub, Nat.reduceLeDiff, Int.reduceEq, Int.reduceLT, Int.reduceLE, Int.reduceAdd, Int.reduceSub, Int.reduceMul, Int.reduceNeg, Int.reduceToNat]
  refine wp_loop' Nat (fun k => ⟨[(1, IS (nat l)), (2, .int place), (3, .ptr 3 0), (7, .int (crT b.base.toNat k t)), (8, .int ((PL : Int) - 1 - k))], [(3, ⟨[.int b.base, .int b.places, .sl 1 (b.cords.map SS) .sh, SS b.top], false⟩)], [], none⟩) (fun k => k ≤ PL - place) (fun k => PL - place - k) 0 (by simp) (by simp (config := { failIfUnchanged := false }) (disch := first | omega | (simp only [List.length_map, List.length_append, List.length_cons, List.length_nil, List.length_take, List.length_drop, cells_int, cells_bool, cells_agg, cells_sl, cells_clo, cells_und, wcs_len, List.length_replicate, List.length_set]; done) | (simp only [List.length_map, List.length_append, List.length_cons, List.length_nil, List.length_take, List.length_drop, cells_int, cells_bool, cells_agg, cells_sl, cells_clo, cells_und, wcs_len, List.length_replicate, List.length_set]; omega)) only [go_sem, ↓reduceIte, reduceCtorEq, Nat.reduceEqDiff, Nat.reduceAdd, Nat.reduceMul, Nat.reduceSub, Nat.reduceLeDiff, Int.reduceEq, Int.reduceLT, Int.reduceLE, Int.reduceAdd, Int.reduceSub, Int.reduceMul, Int.reduceNeg, Int.reduceToNat]; simp [crT, hPL]) ?_
  intro k hk
  have hcr := crT_le hB k t
  have hds := dsum_le hB (b.base.toNat ^ k) t
  have hds2 : t.length * b.base.toNat ≤ 4 * 10 := Nat.mul_le_mul (by omega) (by omega)
  simp (config := { failIfUnchanged := false }) (disch := first | omega | (simp only [List.length_map, List.length_append, List.length_cons, List.length_nil, List.length_take, List.length_drop, cells_int, cells_bool, cells_agg, cells_sl, cells_clo, cells_und, wcs_len, List.length_replicate, List.length_set]; done) | (simp only [List.length_map, List.length_append, List.length_cons, List.length_nil, List.length_take, List.length_drop, cells_int, cells_bool, cells_agg, cells_sl, cells_clo, cells_und, wcs_len, List.length_replicate, List.length_set]; omega)) only [go_sem, ↓reduceIte, reduceCtorEq, Nat.reduceEqDiff, Nat.reduceAdd, Nat.reduceMul, Nat.reduceSub, Nat.reduceLeDiff, Int.reduceEq, Int.reduceLT, Int.reduceLE, Int.reduceAdd, Int.reduceSub, Int.reduceMul, Int.reduceNeg, Int.reduceToNat]
  refine wcond_dec (fun h => ?_) (fun h => ?_)
  · have hk2 : k < PL - place := by omega
    obtain ⟨q, hq⟩ : ∃ q : Nat, (PL : Int) - 1 - k = q := ⟨PL - 1 - k, by omega⟩
    have hqk : PL - 1 - q = k := by omega
    rw [hq]
    simp (config := { failIfUnchanged := false }) (disch := first | omega | (simp only [List.length_map, List.length_append, List.length_cons, List.length_nil, List.length_take, List.length_drop, cells_int, cells_bool, cells_agg, cells_sl, cells_clo, cells_und, wcs_len, List.length_replicate, List.length_set]; done) | (simp only [List.length_map, List.length_append, List.length_cons, List.length_nil, List.length_take, List.length_drop, cells_int, cells_bool, cells_agg, cells_sl, cells_clo, cells_und, wcs_len, List.length_replicate, List.length_set]; omega)) only [go_sem, ↓reduceIte, reduceCtorEq, Nat.reduceEqDiff, Nat.reduceAdd, Nat.reduceMul, Nat.reduceSub, Nat.reduceLeDiff, Int.reduceEq, Int.reduceLT, Int.reduceLE, Int.reduceAdd, Int.reduceSub, Int.reduceMul, Int.reduceNeg, Int.reduceToNat]
    refine wp_loop' Nat (fun i => ⟨[(1, IS (nat l)), (2, .int place), (3, .ptr 3 0), (7, .int (crT b.base.toNat k t + ((t.take i).map (· / b.base.toNat ^ k % b.base.toNat)).sum : Nat)), (8, .int q), (9, .int i)], [(3, ⟨[.int b.base, .int b.places, .sl 1 (b.cords.map SS) .sh, SS b.top], false⟩)], [], none⟩) (fun i => i ≤ b.cords.length) (fun i => b.cords.length - i) 0 (by simp) (by simp (config := { failIfUnchanged := false }) (disch := first | omega | (simp only [List.length_map, List.length_append, List.length_cons, List.length_nil, List.length_take, List.length_drop, cells_int, cells_bool, cells_agg, cells_sl, cells_clo, cells_und, wcs_len, List.length_replicate, List.length_set]; done) | (simp only [List.length_map, List.length_append, List.length_cons, List.length_nil, List.length_take, List.length_drop, cells_int, cells_bool, cells_agg, cells_sl, cells_clo, cells_und, wcs_len, List.length_replicate, List.length_set]; omega)) only [go_sem, ↓reduceIte, reduceCtorEq, Nat.reduceEqDiff, Nat.reduceAdd, Nat.reduceMul, Nat.reduceSub, Nat.reduceLeDiff, Int.reduceEq, Int.reduceLT, Int.reduceLE, Int.reduceAdd, Int.reduceSub, Int.reduceMul, Int.reduceNeg, Int.reduceToNat]; simp) ?_
    intro i hi
    have hds3 := dsum_le hB (b.base.toNat ^ k) (t.take i)
    have hds4 : (t.take i).length * b.base.toNat ≤ 4 * 10 := Nat.mul_le_mul (by rw [List.length_take]; omega) (by omega)
    simp (config := { failIfUnchanged := false }) (disch := first | omega | (simp only [List.length_map, List.length_append, List.length_cons, List.length_nil, List.length_take, List.length_drop, cells_int, cells_bool, cells_agg, cells_sl, cells_clo, cells_und, wcs_len, List.length_replicate, List.length_set]; done) | (simp only [List.length_map, List.length_append, List.length_cons, List.length_nil, List.length_take, List.length_drop, cells_int, cells_bool, cells_agg, cells_sl, cells_clo, cells_und, wcs_len, List.length_replicate, List.length_set]; omega)) only [go_sem, ↓reduceIte, reduceCtorEq, Nat.reduceEqDiff, Nat.reduceAdd, Nat.reduceMul, Nat.reduceSub, Nat.reduceLeDiff, Int.reduceEq, Int.reduceLT, Int.reduceLE, Int.reduceAdd, Int.reduceSub, Int.reduceMul, Int.reduceNeg, Int.reduceToNat]
    refine wcond_dec (fun h2 => ?_) (fun h2 => ?_)
    · have hlt : i < b.cords.length := by omega
      have hxl : l[i]?.getD default < allN b := hsm _ (mem_getD (by omega))
      simp (config := { failIfUnchanged := false }) (disch := first | omega | (simp only [List.length_map, List.length_append, List.length_cons, List.length_nil, List.length_take, List.length_drop, cells_int, cells_bool, cells_agg, cells_sl, cells_clo, cells_und, wcs_len, List.length_replicate, List.length_set]; done) | (simp only [List.length_map, List.length_append, List.length_cons, List.length_nil, List.length_take, List.length_drop, cells_int, cells_bool, cells_agg, cells_sl, cells_clo, cells_und, wcs_len, List.length_replicate, List.length_set]; omega)) only [go_sem, ↓reduceIte, reduceCtorEq, Nat.reduceEqDiff, Nat.reduceAdd, Nat.reduceMul, Nat.reduceSub, Nat.reduceLeDiff, Int.reduceEq, Int.reduceLT, Int.reduceLE, Int.reduceAdd, Int.reduceSub, Int.reduceMul, Int.reduceNeg, Int.reduceToNat, nat_get]
      refine wcall (c69 b hv (l[i]?.getD default) (by omega)) ?_
      have htl2 := tieN_len b.base.toNat b.places.toNat (l[i]?.getD default)
      have eat : (tieN b.base.toNat b.places.toNat (l[i]?.getD default))[q]?.getD default = ((l[i]?.getD default / b.base.toNat ^ k % b.base.toNat : Nat) : Int) := by
        rw [tieN_at _ _ _ _ (by omega), hPn, hqk]
      have hti : t[i]?.getD default = l[i]?.getD default := by
        rw [← ht, List.getElem?_take_of_lt hlt]
      have hsn : ((t.take (i + 1)).map (· / b.base.toNat ^ k % b.base.toNat)).sum = ((t.take i).map (· / b.base.toNat ^ k % b.base.toNat)).sum + l[i]?.getD default / b.base.toNat ^ k % b.base.toNat := by
        rw [take_snoc (by omega), List.map_append, List.sum_append, hti]
        simp
      have hdm : l[i]?.getD default / b.base.toNat ^ k % b.base.toNat < b.base.toNat := Nat.mod_lt _ hB
      generalize l[i]?.getD default / b.base.toNat ^ k % b.base.toNat = dg at *
      generalize ((t.take i).map (· / b.base.toNat ^ k % b.base.toNat)).sum = sm at *
      simp (config := { failIfUnchanged := false }) (disch := first | omega | (simp only [List.length_map, List.length_append, List.length_cons, List.length_nil, List.length_take, List.length_drop, cells_int, cells_bool, cells_agg, cells_sl, cells_clo, cells_und, wcs_len, List.length_replicate, List.length_set]; done) | (simp only [List.length_map, List.length_append, List.length_cons, List.length_nil, List.length_take, List.length_drop, cells_int, cells_bool, cells_agg, cells_sl, cells_clo, cells_und, wcs_len, List.length_replicate, List.length_set]; omega)) only [go_sem, ↓reduceIte, reduceCtorEq, Nat.reduceEqDiff, Nat.reduceAdd, Nat.reduceMul, Nat.reduceSub, Nat.reduceLeDiff, Int.reduceEq, Int.reduceLT, Int.reduceLE, Int.reduceAdd, Int.reduceSub, Int.reduceMul, Int.reduceNeg, Int.reduceToNat, eat]
      refine ⟨i + 1, by omega, by dsimp only; omega, ?_⟩
      dsimp only
      rw [hsn]
      simp (config := { failIfUnchanged := false }) (disch := first | omega | (simp only [List.length_map, List.length_append, List.length_cons, List.length_nil, List.length_take, List.length_drop, cells_int, cells_bool, cells_agg, cells_sl, cells_clo, cells_und, wcs_len, List.length_replicate, List.length_set]; done) | (simp only [List.length_map, List.length_append, List.length_cons, List.length_nil, List.length_take, List.length_drop, cells_int, cells_bool, cells_agg, cells_sl, cells_clo, cells_und, wcs_len, List.length_replicate, List.length_set]; omega)) only [go_sem, ↓reduceIte, reduceCtorEq, Nat.reduceEqDiff, Nat.reduceAdd, Nat.reduceMul, Nat.reduceSub, Nat.reduceLeDiff, Int.reduceEq, Int.reduceLT, Int.reduceLE, Int.reduceAdd, Int.reduceSub, Int.reduceMul, Int.reduceNeg, Int.reduceToNat]
      simp
      try omega
    · have e : i = b.cords.length := by omega
      subst e
      rw [show t.take b.cords.length = t by rw [← htl, List.take_length]]
      simp (config := { failIfUnchanged := false }) (disch := first | omega | (simp only [List.length_map, List.length_append, List.length_cons, List.length_nil, List.length_take, List.length_drop, cells_int, cells_bool, cells_agg, cells_sl, cells_clo, cells_und, wcs_len, List.length_replicate, List.length_set]; done) | (simp only [List.length_map, List.length_append, List.length_cons, List.length_nil, List.length_take, List.length_drop, cells_int, cells_bool, cells_agg, cells_sl, cells_clo, cells_und, wcs_len, List.length_replicate, List.length_set]; omega)) only [go_sem, ↓reduceIte, reduceCtorEq, Nat.reduceEqDiff, Nat.reduceAdd, Nat.reduceMul, Nat.reduceSub, Nat.reduceLeDiff, Int.reduceEq, Int.reduceLT, Int.reduceLE, Int.reduceAdd, Int.reduceSub, Int.reduceMul, Int.reduceNeg, Int.reduceToNat, eq]
      refine ⟨k + 1, by omega, by dsimp only; omega, ?_⟩
      dsimp only
      rw [crT, show (PL : Int) - 1 - (k + 1 : Nat) = (q : Int) - 1 by omega]
      have hdv := Nat.div_le_self (crT b.base.toNat k t + (t.map (· / b.base.toNat ^ k % b.base.toNat)).sum) b.base.toNat
      generalize (crT b.base.toNat k t + (t.map (· / b.base.toNat ^ k % b.base.toNat)).sum) / b.base.toNat = z at hdv ⊢
      simp (config := { failIfUnchanged := false }) (disch := first | omega | (simp only [List.length_map, List.length_append, List.length_cons, List.length_nil, List.length_take, List.length_drop, cells_int, cells_bool, cells_agg, cells_sl, cells_clo, cells_und, wcs_len, List.length_replicate, List.length_set]; done) | (simp only [List.length_map, List.length_append, List.length_cons, List.length_nil, List.length_take, List.length_drop, cells_int, cells_bool, cells_agg, cells_sl, cells_clo, cells_und, wcs_len, List.length_replicate, List.length_set]; omega)) only [go_sem, ↓reduceIte, reduceCtorEq, Nat.reduceEqDiff, Nat.reduceAdd, Nat.reduceMul, Nat.reduceSub, Nat.reduceLeDiff, Int.reduceEq, Int.reduceLT, Int.reduceLE, Int.reduceAdd, Int.reduceSub, Int.reduceMul, Int.reduceNeg, Int.reduceToNat]
  · have e : k = PL - place := by omega
    subst e
    simp (config := { failIfUnchanged := false }) (disch := first | omega | (simp only [List.length_map, List.length_append, List.length_cons, List.length_nil, List.length_take, List.length_drop, cells_int, cells_bool, cells_agg, cells_sl, cells_clo, cells_und, wcs_len, List.length_replicate, List.length_set]; done) | (simp only [List.length_map, List.length_append, List.length_cons, List.length_nil, List.length_take, List.length_drop, cells_int, cells_bool, cells_agg, cells_sl, cells_clo, cells_und, wcs_len, List.length_replicate, List.length_set]; omega)) only [go_sem, ↓reduceIte, reduceCtorEq, Nat.reduceEqDiff, Nat.reduceAdd, Nat.reduceMul, Nat.reduceSub, Nat.reduceLeDiff, Int.reduceEq, Int.reduceLT, Int.reduceLE, Int.reduceAdd, Int.reduceSub, Int.reduceMul, Int.reduceNeg, Int.reduceToNat]

end Go.Proofs.Ytkkiipjfbebipaa

/- The reference's Carry. -/
set_option linter.unusedSimpArgs false
set_option linter.unusedVariables false
set_option linter.unnecessarySimpa false
namespace Go.Proofs.Ytkkiipjfbebipaa
open Go Go.V

/-- What is carried to a place in the lists. -/
def crS (b : Bk) (p : Nat) (m : Nat) : List Int := ((allNs b).take m).map fun l => ((carN b l p : Nat) : Int)

theorem c58 (b : Bk) (hs : Small b) (p : Int) (hlen : checkB b = true → (allS b).length < 4294967296) : Ctr Try.prog 58 [KB b, .int p]
    (if checkB b then if within p 0 (w64 (b.places - 1)) then if (allS b).length = 0 then .tup [SP ⟨0, 0⟩, .int 3] else .tup [SP (spanL (crS b p.toNat (allS b).length) (allS b).length), .int 0] else .tup [SP ⟨0, 0⟩, .int 1] else .tup [SP ⟨0, 0⟩, .int 110]) := by
  refine ctr_of_wp hmix Try.func58 m58 rfl ?_
  unfold v58
  simp (config := { failIfUnchanged := false }) (disch := first | omega | (simp only [List.length_map, List.length_append, List.length_cons, List.length_nil, List.length_take, List.length_drop, cells_int, cells_bool, cells_agg, cells_sl, cells_clo, cells_und, wcs_len, List.length_replicate, List.length_set]; done) | (simp only [List.length_map, List.length_append, List.length_cons, List.length_nil, List.length_take, List.length_drop, cells_int, cells_bool, cells_agg, cells_sl, cells_clo, cells_und, wcs_len, List.length_replicate, List.length_set]; omega)) only [go_sem, ↓reduceIte, reduceCtorEq, Nat.reduceEqDiff, Nat.reduceAdd, Nat.reduceMul, Nat.reduceSub, Nat.reduceLeDiff, Int.reduceEq, Int.reduceLT, Int.reduceLE, Int.reduceAdd, Int.reduceSub, Int.reduceMul, Int.reduceNeg, Int.reduceToNat]
  refine wcall (c30 b p) ?_
  simp (config := { failIfUnchanged := false }) (disch := first | omega | (simp only [List.length_map, List.length_append, List.length_cons, List.length_nil, List.length_take, List.length_drop, cells_int, cells_bool, cells_agg, cells_sl, cells_clo, cells_und, wcs_len, List.length_replicate, List.length_set]; done) | (simp only [List.length_map, List.length_append, List.length_cons, List.length_nil, List.length_take, List.length_drop, cells_int, cells_bool, cells_agg, cells_sl, cells_clo, cells_und, wcs_len, List.length_replicate, List.length_set]; omega)) only [go_sem, ↓reduceIte, reduceCtorEq, Nat.reduceEqDiff, Nat.reduceAdd, Nat.reduceMul, Nat.reduceSub, Nat.reduceLeDiff, Int.reduceEq, Int.reduceLT, Int.reduceLE, Int.reduceAdd, Int.reduceSub, Int.reduceMul, Int.reduceNeg, Int.reduceToNat]
  refine wcall (c96 b hs _ hlen) ?_
  cases hc : checkB b with
  | false => simp (config := { failIfUnchanged := false }) (disch := first | omega | (simp only [List.length_map, List.length_append, List.length_cons, List.length_nil, List.length_take, List.length_drop, cells_int, cells_bool, cells_agg, cells_sl, cells_clo, cells_und, wcs_len, List.length_replicate, List.length_set]; done) | (simp only [List.length_map, List.length_append, List.length_cons, List.length_nil, List.length_take, List.length_drop, cells_int, cells_bool, cells_agg, cells_sl, cells_clo, cells_und, wcs_len, List.length_replicate, List.length_set]; omega)) only [go_sem, ↓reduceIte, reduceCtorEq, Nat.reduceEqDiff, Nat.reduceAdd, Nat.reduceMul, Nat.reduceSub, Nat.reduceLeDiff, Int.reduceEq, Int.reduceLT, Int.reduceLE, Int.reduceAdd, Int.reduceSub, Int.reduceMul, Int.reduceNeg, Int.reduceToNat]
  | true =>
    have hv := val_of_check hc
    obtain ⟨hp1, hp2⟩ := hv.hp
    obtain ⟨hb1, hb2⟩ := hv.hb
    have hall := allN_le hv
    cases hw : within p 0 (w64 (b.places - 1)) with
    | false => simp (config := { failIfUnchanged := false }) (disch := first | omega | (simp only [List.length_map, List.length_append, List.length_cons, List.length_nil, List.length_take, List.length_drop, cells_int, cells_bool, cells_agg, cells_sl, cells_clo, cells_und, wcs_len, List.length_replicate, List.length_set]; done) | (simp only [List.length_map, List.length_append, List.length_cons, List.length_nil, List.length_take, List.length_drop, cells_int, cells_bool, cells_agg, cells_sl, cells_clo, cells_und, wcs_len, List.length_replicate, List.length_set]; omega)) only [go_sem, ↓reduceIte, reduceCtorEq, Nat.reduceEqDiff, Nat.reduceAdd, Nat.reduceMul, Nat.reduceSub, Nat.reduceLeDiff, Int.reduceEq, Int.reduceLT, Int.reduceLE, Int.reduceAdd, Int.reduceSub, Int.reduceMul, Int.reduceNeg, Int.reduceToNat]
    | true =>
      rw [w64_id (by omega)] at hw
      have hp3 : 0 ≤ p ∧ p ≤ b.places - 1 := by simpa [within] using hw
      obtain ⟨q, rfl⟩ : ∃ q : Nat, p = q := ⟨p.toNat, by omega⟩
      have hl2 := hlen hc
      rw [allS_eq] at hl2 ⊢
      simp only [List.length_map] at hl2 ⊢
      have hmem := @allNs_mem b
      generalize hL : allNs b = L at hl2 hmem
      by_cases h0 : L.length = 0
      · simp (config := { failIfUnchanged := false }) (disch := first | omega | (simp only [List.length_map, List.length_append, List.length_cons, List.length_nil, List.length_take, List.length_drop, cells_int, cells_bool, cells_agg, cells_sl, cells_clo, cells_und, wcs_len, List.length_replicate, List.length_set]; done) | (simp only [List.length_map, List.length_append, List.length_cons, List.length_nil, List.length_take, List.length_drop, cells_int, cells_bool, cells_agg, cells_sl, cells_clo, cells_und, wcs_len, List.length_replicate, List.length_set]; omega)) only [go_sem, ↓reduceIte, reduceCtorEq, Nat.reduceEqDiff, Nat.reduceAdd, Nat.reduceMul, Nat.reduceSub, Nat.reduceLeDiff, Int.reduceEq, Int.reduceLT, Int.reduceLE, Int.reduceAdd, Int.reduceSub, Int.reduceMul, Int.reduceNeg, Int.reduceToNat, h0]
      · simp (config := { failIfUnchanged := false }) (disch := first | omega | (simp only [List.length_map, List.length_append, List.length_cons, List.length_nil, List.length_take, List.length_drop, cells_int, cells_bool, cells_agg, cells_sl, cells_clo, cells_und, wcs_len, List.length_replicate, List.length_set]; done) | (simp only [List.length_map, List.length_append, List.length_cons, List.length_nil, List.length_take, List.length_drop, cells_int, cells_bool, cells_agg, cells_sl, cells_clo, cells_und, wcs_len, List.length_replicate, List.length_set]; omega)) only [go_sem, ↓reduceIte, reduceCtorEq, Nat.reduceEqDiff, Nat.reduceAdd, Nat.reduceMul, Nat.reduceSub, Nat.reduceLeDiff, Int.reduceEq, Int.reduceLT, Int.reduceLE, Int.reduceAdd, Int.reduceSub, Int.reduceMul, Int.reduceNeg, Int.reduceToNat, h0]
        refine wp_loop' Nat (fun i => ⟨[(1, .int q), (2, .ptr 2 0), (4, .ptr 4 0), (6, ISS (L.map nat)), (8, .sl 1 ((crS b q i).map .int) (.own 8)), (9, .int i)], [(4, ⟨[.int 0, .int 0], false⟩), (2, ⟨[.int b.base, .int b.places, .sl 1 (b.cords.map SS) .sh, SS b.top], false⟩)], [(8, (crS b q i).length)], none⟩) (fun i => i ≤ L.length) (fun i => L.length - i) 0 (by simp) (by simp (config := { failIfUnchanged := false }) (disch := first | omega | (simp only [List.length_map, List.length_append, List.length_cons, List.length_nil, List.length_take, List.length_drop, cells_int, cells_bool, cells_agg, cells_sl, cells_clo, cells_und, wcs_len, List.length_replicate, List.length_set]; done) | (simp only [List.length_map, List.length_append, List.length_cons, List.length_nil, List.length_take, List.length_drop, cells_int, cells_bool, cells_agg, cells_sl, cells_clo, cells_und, wcs_len, List.length_replicate, List.length_set]; omega)) only [go_sem, ↓reduceIte, reduceCtorEq, Nat.reduceEqDiff, Nat.reduceAdd, Nat.reduceMul, Nat.reduceSub, Nat.reduceLeDiff, Int.reduceEq, Int.reduceLT, Int.reduceLE, Int.reduceAdd, Int.reduceSub, Int.reduceMul, Int.reduceNeg, Int.reduceToNat]; simp [crS]) ?_
        intro i hi
        have hcl : (crS b q i).length = i := by simp [crS, hL]; omega
        simp (config := { failIfUnchanged := false }) (disch := first | omega | (simp only [List.length_map, List.length_append, List.length_cons, List.length_nil, List.length_take, List.length_drop, cells_int, cells_bool, cells_agg, cells_sl, cells_clo, cells_und, wcs_len, List.length_replicate, List.length_set]; done) | (simp only [List.length_map, List.length_append, List.length_cons, List.length_nil, List.length_take, List.length_drop, cells_int, cells_bool, cells_agg, cells_sl, cells_clo, cells_und, wcs_len, List.length_replicate, List.length_set]; omega)) only [go_sem, ↓reduceIte, reduceCtorEq, Nat.reduceEqDiff, Nat.reduceAdd, Nat.reduceMul, Nat.reduceSub, Nat.reduceLeDiff, Int.reduceEq, Int.reduceLT, Int.reduceLE, Int.reduceAdd, Int.reduceSub, Int.reduceMul, Int.reduceNeg, Int.reduceToNat]
        refine wcond_dec (fun h => ?_) (fun h => ?_)
        · have hlt : i < L.length := by omega
          obtain ⟨l, hl⟩ : ∃ l, L[i]? = some l := ⟨L[i], List.getElem?_eq_getElem hlt⟩
          have hlm := hmem (List.mem_of_getElem? hl)
          have e1 : (L.map nat)[i]?.getD default = nat l := by simp [hl]
          simp (config := { failIfUnchanged := false }) (disch := first | omega | (simp only [List.length_map, List.length_append, List.length_cons, List.length_nil, List.length_take, List.length_drop, cells_int, cells_bool, cells_agg, cells_sl, cells_clo, cells_und, wcs_len, List.length_replicate, List.length_set]; done) | (simp only [List.length_map, List.length_append, List.length_cons, List.length_nil, List.length_take, List.length_drop, cells_int, cells_bool, cells_agg, cells_sl, cells_clo, cells_und, wcs_len, List.length_replicate, List.length_set]; omega)) only [go_sem, ↓reduceIte, reduceCtorEq, Nat.reduceEqDiff, Nat.reduceAdd, Nat.reduceMul, Nat.reduceSub, Nat.reduceLeDiff, Int.reduceEq, Int.reduceLT, Int.reduceLE, Int.reduceAdd, Int.reduceSub, Int.reduceMul, Int.reduceNeg, Int.reduceToNat, e1]
          refine wcall (c62 b hv l hlm.1 hlm.2 q (by omega)) ?_
          simp (config := { failIfUnchanged := false }) (disch := first | omega | (simp only [List.length_map, List.length_append, List.length_cons, List.length_nil, List.length_take, List.length_drop, cells_int, cells_bool, cells_agg, cells_sl, cells_clo, cells_und, wcs_len, List.length_replicate, List.length_set]; done) | (simp only [List.length_map, List.length_append, List.length_cons, List.length_nil, List.length_take, List.length_drop, cells_int, cells_bool, cells_agg, cells_sl, cells_clo, cells_und, wcs_len, List.length_replicate, List.length_set]; omega)) only [go_sem, ↓reduceIte, reduceCtorEq, Nat.reduceEqDiff, Nat.reduceAdd, Nat.reduceMul, Nat.reduceSub, Nat.reduceLeDiff, Int.reduceEq, Int.reduceLT, Int.reduceLE, Int.reduceAdd, Int.reduceSub, Int.reduceMul, Int.reduceNeg, Int.reduceToNat]
          have es : crS b q (i + 1) = crS b q i ++ [((carN b l q : Nat) : Int)] := by
            unfold crS
            rw [hL, List.take_add_one, hl]
            simp
          refine ⟨i + 1, by omega, by dsimp only; omega, ?_⟩
          dsimp only
          rw [es]
          simp (config := { failIfUnchanged := false }) (disch := first | omega | (simp only [List.length_map, List.length_append, List.length_cons, List.length_nil, List.length_take, List.length_drop, cells_int, cells_bool, cells_agg, cells_sl, cells_clo, cells_und, wcs_len, List.length_replicate, List.length_set]; done) | (simp only [List.length_map, List.length_append, List.length_cons, List.length_nil, List.length_take, List.length_drop, cells_int, cells_bool, cells_agg, cells_sl, cells_clo, cells_und, wcs_len, List.length_replicate, List.length_set]; omega)) only [go_sem, ↓reduceIte, reduceCtorEq, Nat.reduceEqDiff, Nat.reduceAdd, Nat.reduceMul, Nat.reduceSub, Nat.reduceLeDiff, Int.reduceEq, Int.reduceLT, Int.reduceLE, Int.reduceAdd, Int.reduceSub, Int.reduceMul, Int.reduceNeg, Int.reduceToNat]
          simp
        · simp (config := { failIfUnchanged := false }) (disch := first | omega | (simp only [List.length_map, List.length_append, List.length_cons, List.length_nil, List.length_take, List.length_drop, cells_int, cells_bool, cells_agg, cells_sl, cells_clo, cells_und, wcs_len, List.length_replicate, List.length_set]; done) | (simp only [List.length_map, List.length_append, List.length_cons, List.length_nil, List.length_take, List.length_drop, cells_int, cells_bool, cells_agg, cells_sl, cells_clo, cells_und, wcs_len, List.length_replicate, List.length_set]; omega)) only [go_sem, ↓reduceIte, reduceCtorEq, Nat.reduceEqDiff, Nat.reduceAdd, Nat.reduceMul, Nat.reduceSub, Nat.reduceLeDiff, Int.reduceEq, Int.reduceLT, Int.reduceLE, Int.reduceAdd, Int.reduceSub, Int.reduceMul, Int.reduceNeg, Int.reduceToNat]
          have e : i = L.length := by omega
          subst e
          refine wcall (c97 _ (by omega) (by omega)) ?_
          simp (config := { failIfUnchanged := false }) (disch := first | omega | (simp only [List.length_map, List.length_append, List.length_cons, List.length_nil, List.length_take, List.length_drop, cells_int, cells_bool, cells_agg, cells_sl, cells_clo, cells_und, wcs_len, List.length_replicate, List.length_set]; done) | (simp only [List.length_map, List.length_append, List.length_cons, List.length_nil, List.length_take, List.length_drop, cells_int, cells_bool, cells_agg, cells_sl, cells_clo, cells_und, wcs_len, List.length_replicate, List.length_set]; omega)) only [go_sem, ↓reduceIte, reduceCtorEq, Nat.reduceEqDiff, Nat.reduceAdd, Nat.reduceMul, Nat.reduceSub, Nat.reduceLeDiff, Int.reduceEq, Int.reduceLT, Int.reduceLE, Int.reduceAdd, Int.reduceSub, Int.reduceMul, Int.reduceNeg, Int.reduceToNat]
          rw [hcl]

/-- What the program says is carried. -/
theorem carryD_spF (b : Bk) (p : Nat) : ∀ k, k ≤ 51 → carryD b p k = spF 51 (fun n => 0 < (solveL b yes3 (carryF p n)).r) k ∧ (carryD b p k).hi ≤ k
  | 0, _ => ⟨by simp [carryD, spF], by simp [carryD]⟩
  | k + 1, hk => by
    obtain ⟨h1, h2⟩ := carryD_spF b p k (by omega)
    have e1 : carryD b p (k + 1) = if 0 < (solveL b yes3 (carryF p k)).r then ⟨min (carryD b p k).lo k, k⟩ else carryD b p k := by
      unfold carryD
      rw [List.range_succ, List.foldl_append]
      rfl
    have e2 : spF 51 (fun n => 0 < (solveL b yes3 (carryF p n)).r) (k + 1) = if 0 < (solveL b yes3 (carryF p k)).r then ⟨min (spF 51 (fun n => 0 < (solveL b yes3 (carryF p n)).r) k).lo k, max (spF 51 (fun n => 0 < (solveL b yes3 (carryF p n)).r) k).hi k⟩ else spF 51 (fun n => 0 < (solveL b yes3 (carryF p n)).r) k := by
      unfold spF
      rw [List.range_succ, List.foldl_append]
      rfl
    rw [e1, e2, ← h1]
    split
    · dsimp only
      refine ⟨?_, by omega⟩
      rw [Sp.mk.injEq]
      omega
    · exact ⟨rfl, by omega⟩

theorem allOK_carry {b : Bk} {p n : Nat} (hp : p < b.places.toNat) (l : List Nat) : allOK b yes3 (carryF p n) l = decide (carN b l p = n) := by
  rw [Bool.eq_iff_iff, allOK_iff, decide_eq_true_eq]
  constructor
  · intro h
    have := (h p hp).2
    simp only [carryF, Bool.or_eq_true, decide_eq_true_eq] at this
    rcases this with h | h
    · exact absurd trivial h
    · exact h
  · intro h q hq
    refine ⟨fun _ _ => rfl, ?_⟩
    simp only [carryF, Bool.or_eq_true, decide_eq_true_eq]
    by_cases e : q = p
    · subst e; exact .inr h
    · exact .inl e

theorem carry_eq {b : Bk} (hv : Val b) {p : Nat} (hp : p < b.places.toNat) (hne : 0 < (allNs b).length) : carryD b p 51 = spanL (crS b p (allNs b).length) (allNs b).length := by
  have hB : 0 < b.base.toNat := by have := hv.hb; omega
  have hcr : ∀ l ∈ allNs b, carN b l p < 51 := by
    intro l hl
    have h1 := crT_le hB (b.places.toNat - p) (l.take b.cords.length)
    have h2 := (allNs_mem hl).1
    have := hv.hc
    rw [carN_cr hB]
    rw [List.length_take] at h1
    omega
  have hpos : ∀ n : Nat, 0 < (solveL b yes3 (carryF p n)).r ↔ ∃ l ∈ allNs b, carN b l p = n := by
    intro n
    rw [solveL_r hv]
    have : 0 < ((sumF (allNs b) fun l => if allOK b yes3 (carryF p n) l then 1 else 0 : Nat) : Int) ↔ 0 < sumF (allNs b) fun l => if allOK b yes3 (carryF p n) l then 1 else 0 := by omega
    rw [this, sumF_pos]
    constructor
    · rintro ⟨l, hl, h⟩
      refine ⟨l, hl, ?_⟩
      split at h
      · next h2 => rwa [allOK_carry hp, decide_eq_true_eq] at h2
      · omega
    · rintro ⟨l, hl, h1⟩
      refine ⟨l, hl, ?_⟩
      rw [allOK_carry hp, h1]
      simp
  rw [(carryD_spF b p 51 (Nat.le_refl _)).1]
  have hd : crS b p (allNs b).length = (allNs b).map fun l => ((carN b l p : Nat) : Int) := by
    unfold crS
    rw [List.take_length]
  rcases spF_spec 51 (fun n => 0 < (solveL b yes3 (carryF p n)).r) 51 (by omega) with ⟨h1, _⟩ | ⟨lo, hi, h1, h2, h3, h4, h5, h6⟩
  · exact absurd ((hpos _).2 ⟨(allNs b)[0], List.getElem_mem _, rfl⟩) (h1 _ (hcr _ (List.getElem_mem _)))
  · obtain ⟨l, hl, e1⟩ := (hpos lo).1 h3
    obtain ⟨k, hk, e2⟩ := (hpos hi).1 h4
    have := spanL_uniq (l := (allNs b).map fun l => ((carN b l p : Nat) : Int)) (lo := lo) (hi := hi) (List.mem_map.2 ⟨l, hl, by rw [e1]⟩) (List.mem_map.2 ⟨k, hk, by rw [e2]⟩) (fun x hx => by
      obtain ⟨m, hm, rfl⟩ := List.mem_map.1 hx
      have := h6 _ (hcr m hm) ((hpos _).2 ⟨m, hm, rfl⟩)
      omega)
    rw [List.length_map] at this
    rw [h5, hd, this]

end Go.Proofs.Ytkkiipjfbebipaa

/- Many, Sure, Cluster and Carry: both ways say the same. -/
set_option linter.unusedSimpArgs false
set_option linter.unusedVariables false
set_option linter.unnecessarySimpa false
namespace Go.Proofs.Ytkkiipjfbebipaa
open Go Go.V

def ansS (b : Bk) (is : Bool) (v : Sp) : Sp × Int := if checkB b then if is then if (allNs b).length = 0 then (⟨0, 0⟩, 3) else (v, 0) else (⟨0, 0⟩, 1) else (⟨0, 0⟩, 110)

theorem ansR_S {b : Bk} (is : Bool) (u v : Sp) (h : checkB b = true → is = true → 0 < (allNs b).length → u = v) : ansR b is (SP ⟨0, 0⟩) (SP u) = .tup [SP (ansS b is v).1, .int (ansS b is v).2] := by
  unfold ansR ansS
  cases hc : checkB b with
  | false => rfl
  | true =>
    cases is with
    | false => rfl
    | true =>
      rw [if_pos rfl, if_pos rfl, if_pos rfl, if_pos rfl, many_len (val_of_check hc)]
      by_cases h0 : (allNs b).length = 0
      · rw [if_pos (by omega), if_pos h0]
      · rw [if_neg (by omega), if_neg h0, h hc rfl (by omega)]

theorem refR_S {b : Bk} (is : Bool) (v : Nat → Sp) : (if checkB b then if is then if (allS b).length = 0 then AV.tup [SP ⟨0, 0⟩, .int 3] else .tup [SP (v (allS b).length), .int 0] else .tup [SP ⟨0, 0⟩, .int 1] else .tup [SP ⟨0, 0⟩, .int 110]) = .tup [SP (ansS b is (v (allNs b).length)).1, .int (ansS b is (v (allNs b).length)).2] := by
  unfold ansS
  rw [allS_eq, List.length_map]
  cases checkB b with
  | false => rfl
  | true =>
    cases is with
    | false => rfl
    | true =>
      by_cases h0 : (allNs b).length = 0
      · simp [h0]
      · simp [h0]

def sureR (b : Bk) (c : Int) : Sp × Int := ansS b (within c 0 b.cords.length) (spanL (colS b c.toNat (allNs b).length) (allNs b).length)
def clusR (b : Bk) (c p : Int) : Sp × Int := ansS b (within c 0 b.cords.length && within p 0 (w64 (b.places - 1))) (spanL (digS b c.toNat p.toNat (allNs b).length) (allNs b).length)
def carrR (b : Bk) (p : Int) : Sp × Int := ansS b (within p 0 (w64 (b.places - 1))) (spanL (crS b p.toNat (allNs b).length) (allNs b).length)
def manyR2 (b : Bk) : Int × Int := if checkB b then ((allNs b).length, 0) else (0, 110)

theorem c34r (b : Bk) (hs : Small b) : Ctr Try.prog 34 [KB b] (.tup [.int (manyR2 b).1, .int (manyR2 b).2]) := by
  have := c34 b hs
  unfold manyR2
  cases hc : checkB b with
  | false => simpa [hc] using this
  | true =>
    rw [many_len (val_of_check hc)] at this
    simpa [hc] using this

theorem c55r (b : Bk) (hs : Small b) (hlen : checkB b = true → (allS b).length < 4294967296) : Ctr Try.prog 55 [KB b] (.tup [.int (manyR2 b).1, .int (manyR2 b).2]) := by
  have := c55 b hs hlen
  rw [show sumsF b false b.cords.length [] = allS b from rfl, allS_eq, List.length_map] at this
  unfold manyR2
  cases hc : checkB b with
  | false => simpa [hc] using this
  | true => simpa [hc] using this

theorem c35r (b : Bk) (hs : Small b) (c : Int) : Ctr Try.prog 35 [KB b, .int c] (.tup [SP (sureR b c).1, .int (sureR b c).2]) := by
  have := c35 b hs c
  rwa [ansR_S _ _ (spanL (colS b c.toNat (allNs b).length) (allNs b).length) (fun hc hi hne => sure_eq (val_of_check hc) (by simp [within] at hi; omega) hne)] at this

theorem c56r (b : Bk) (hs : Small b) (c : Int) (hlen : checkB b = true → (allS b).length < 4294967296) : Ctr Try.prog 56 [KB b, .int c] (.tup [SP (sureR b c).1, .int (sureR b c).2]) := by
  have := c56 b hs c hlen
  rwa [refR_S _ (fun m => spanL (colS b c.toNat m) m)] at this

theorem in_place {b : Bk} (hc : checkB b = true) {p : Int} (hi : within p 0 (w64 (b.places - 1)) = true) : p.toNat < b.places.toNat := by
  have hv := val_of_check hc
  have := hv.hp
  rw [w64_id (by omega)] at hi
  have : 0 ≤ p ∧ p ≤ b.places - 1 := by simpa [within] using hi
  omega

theorem c39r (b : Bk) (hs : Small b) (c p : Int) : Ctr Try.prog 39 [KB b, .int c, .int p] (.tup [SP (clusR b c p).1, .int (clusR b c p).2]) := by
  have := c39 b hs c p
  rwa [ansR_S _ _ (spanL (digS b c.toNat p.toNat (allNs b).length) (allNs b).length) (fun hc hi hne => by
    rw [Bool.and_eq_true] at hi
    exact cluster_eq (val_of_check hc) (by have h1 := hi.1; simp [within] at h1; omega) (in_place hc hi.2) hne)] at this

theorem c57r (b : Bk) (hs : Small b) (c p : Int) (hlen : checkB b = true → (allS b).length < 4294967296) : Ctr Try.prog 57 [KB b, .int c, .int p] (.tup [SP (clusR b c p).1, .int (clusR b c p).2]) := by
  have := c57 b hs c p hlen
  rwa [refR_S _ (fun m => spanL (digS b c.toNat p.toNat m) m)] at this

theorem c47r (b : Bk) (hs : Small b) (p : Int) : Ctr Try.prog 47 [KB b, .int p] (.tup [SP (carrR b p).1, .int (carrR b p).2]) := by
  have := c47 b hs p
  rwa [ansR_S _ _ (spanL (crS b p.toNat (allNs b).length) (allNs b).length) (fun hc hi hne => carry_eq (val_of_check hc) (in_place hc hi) hne)] at this

theorem c58r (b : Bk) (hs : Small b) (p : Int) (hlen : checkB b = true → (allS b).length < 4294967296) : Ctr Try.prog 58 [KB b, .int p] (.tup [SP (carrR b p).1, .int (carrR b p).2]) := by
  have := c58 b hs p hlen
  rwa [refR_S _ (fun m => spanL (crS b p.toNat m) m)] at this

end Go.Proofs.Ytkkiipjfbebipaa

/- Plain law for KnotsEach: a right reading is one of the lists. -/
set_option linter.unusedSimpArgs false
set_option linter.unusedVariables false
set_option linter.unnecessarySimpa false
namespace Go.Proofs.Ytkkiipjfbebipaa
open Go Go.V

theorem sums_in (b : Bk) : ∀ (k : Nat) (first t : List Nat), t.length = k → (∀ c, c < k → isN b (first.length + c) false (t[c]?.getD default) = true ∧ t[c]?.getD default < allN b) →
    (first ++ t).sum < allN b → fitsL b.top (tieN b.base.toNat b.places.toNat (first ++ t).sum) = true → first ++ t ++ [(first ++ t).sum] ∈ sumsN b false k first
  | 0, first, t, ht, _, h1, h2 => by
    have : t = [] := List.eq_nil_of_length_eq_zero ht
    subst this
    rw [List.append_nil] at h1 h2 ⊢
    unfold sumsN
    rw [if_pos (by simp [h1, h2])]
    simp
  | k + 1, first, [], ht, _, _, _ => by simp at ht
  | k + 1, first, n :: u, ht, hc, h1, h2 => by
    have hn := hc 0 (by omega)
    simp only [Nat.add_zero, List.getElem?_cons_zero, Option.getD_some] at hn
    have e : first ++ n :: u = (first ++ [n]) ++ u := by simp
    rw [e] at h1 h2 ⊢
    unfold sumsN
    refine List.mem_flatMap.2 ⟨n, List.mem_filter.2 ⟨List.mem_range.2 hn.2, hn.1⟩, ?_⟩
    refine sums_in b k (first ++ [n]) u (by simpa using ht) (fun c hck => ?_) h1 h2
    have := hc (c + 1) (by omega)
    rw [List.getElem?_cons_succ] at this
    rw [List.length_append, List.length_singleton, show first.length + 1 + c = first.length + (c + 1) by omega]
    exact this

theorem sums_fit (b : Bk) : ∀ (k : Nat) (first l : List Nat), l ∈ sumsN b false k first →
    (∀ c, c < first.length → l[c]? = first[c]?) ∧ (∀ c, c < k → isN b (first.length + c) false (l[first.length + c]?.getD default) = true) ∧ fitsL b.top (tieN b.base.toNat b.places.toNat (l[first.length + k]?.getD default)) = true
  | 0, first, l, hl => by
    unfold sumsN at hl
    split at hl
    · next h =>
      simp only [List.mem_singleton] at hl
      subst hl
      simp only [Bool.false_or, Bool.and_eq_true] at h
      refine ⟨fun c hc => List.getElem?_append_left hc, fun c hc => by omega, ?_⟩
      simpa using h.2
    · simp at hl
  | k + 1, first, l, hl => by
    unfold sumsN at hl
    obtain ⟨n, hn, hl⟩ := List.mem_flatMap.1 hl
    obtain ⟨h1, h2, h3⟩ := sums_fit b k (first ++ [n]) l hl
    have hn2 := (List.mem_filter.1 hn).2
    simp only [List.length_append, List.length_singleton] at h1 h2 h3
    refine ⟨fun c hc => ?_, fun c hc => ?_, ?_⟩
    · rw [h1 c (by omega), List.getElem?_append_left hc]
    · rcases Nat.eq_zero_or_pos c with h | h
      · subst h
        rw [Nat.add_zero, h1 first.length (by omega), List.getElem?_append_right (Nat.le_refl _)]
        simpa using hn2
      · have := h2 (c - 1) (by omega)
        rwa [show first.length + 1 + (c - 1) = first.length + c by omega] at this
    · rwa [show first.length + 1 + k = first.length + (k + 1) by omega] at h3

/-- Each number of a right reading fits its cord. -/
theorem all_fits {b : Bk} {l : List Nat} (hl : l ∈ allNs b) {c : Nat} (hc : c ≤ b.cords.length) : fitsL (cordAt b c) (tieN b.base.toNat b.places.toNat (l[c]?.getD default)) = true := by
  obtain ⟨_, h2, h3⟩ := sums_fit b b.cords.length [] l hl
  simp only [List.length_nil, Nat.zero_add] at h2 h3
  rcases Nat.lt_or_ge c b.cords.length with h | h
  · simpa [isN] using h2 c h
  · have : c = b.cords.length := by omega
    subst this
    unfold cordAt
    rw [if_pos rfl]
    exact h3

/-- Digits are those of their number. -/
theorem dig_num {B : Nat} (hB : 2 ≤ B ∧ B ≤ 10) : ∀ (P : Nat) (x : List Int), x.length = P → P ≤ 4 → (∀ d ∈ x, 0 ≤ d ∧ d < B) → ∃ n : Nat, numL (B : Int) x = n ∧ n < B ^ P ∧ tieN B P n = x
  | 0, x, hx, _, _ => by
    have : x = [] := List.eq_nil_of_length_eq_zero hx
    subst this
    exact ⟨0, rfl, by simp, rfl⟩
  | P + 1, x, hx, hP, hd => by
    rcases List.eq_nil_or_concat x with h | ⟨y, d, h⟩
    · subst h; simp at hx
    · rw [List.concat_eq_append] at h
      subst h
      simp only [List.length_append, List.length_singleton, Nat.add_right_cancel_iff] at hx
      obtain ⟨m, h1, h2, h3⟩ := dig_num hB P y hx (by omega) fun e he => hd e (by simp [he])
      obtain ⟨d1, d2⟩ := hd d (by simp)
      obtain ⟨e, rfl⟩ : ∃ e : Nat, d = e := ⟨d.toNat, by omega⟩
      have hpw : B ^ P ≤ 10000 := pow_le hB.2 (by omega)
      have hmB : m * B ≤ 10000 * 10 := Nat.mul_le_mul (by omega) hB.2
      have e1 : (m : Int) * (B : Int) = ((m * B : Nat) : Int) := (Int.natCast_mul _ _).symm
      have hlt : m * B + e < B ^ (P + 1) := by
        have : (m + 1) * B ≤ B ^ P * B := Nat.mul_le_mul_right B (by omega)
        rw [Nat.pow_succ]
        rw [Nat.add_mul, Nat.one_mul] at this
        omega
      have hB0 : 0 < B := by omega
      have heB : e < B := by omega
      refine ⟨m * B + e, ?_, hlt, ?_⟩
      · unfold numL at h1 ⊢
        rw [List.foldl_append, h1, List.foldl_cons, List.foldl_nil, e1, w64_id (n := ((m * B : Nat) : Int)) (by omega), w64_id (by omega)]
        omega
      · rw [tieN]
        have q1 : (m * B + e) / B = m := by rw [Nat.mul_comm, Nat.mul_add_div hB0, Nat.div_eq_of_lt heB, Nat.add_zero]
        have q2 : (m * B + e) % B = e := by rw [Nat.mul_comm, Nat.mul_add_mod, Nat.mod_eq_of_lt heB]
        rw [q1, q2, h3]

theorem dig_tie {b : Bk} (hv : Val b) {x : List Int} (h : areDig b x = true) : ∃ n : Nat, numL b.base x = n ∧ n < allN b ∧ tieN b.base.toNat b.places.toNat n = x := by
  have hbb := hv.hb
  have hpp := hv.hp
  simp only [areDig, Bool.and_eq_true, decide_eq_true_eq, Bool.not_eq_true', List.any_eq_false] at h
  obtain ⟨h1, h2⟩ := h
  have hBb : ((b.base.toNat : Nat) : Int) = b.base := by omega
  have := dig_num (B := b.base.toNat) (by omega) b.places.toNat x (by omega) (by omega) fun d hd => by
    have := h2 d hd
    rw [w64_id (by omega)] at this
    simp only [within, Bool.not_eq_true', Bool.and_eq_false_iff, decide_eq_false_iff_not, Bool.not_eq_false, Bool.and_eq_true, decide_eq_true_eq] at this
    omega
  rwa [hBb] at this

def nmL (b : Bk) (x : List Int) : Nat := (numL b.base x).toNat

theorem sumW_nat {b : Bk} (hv : Val b) : ∀ (r : List (List Int)) (n : Nat), (∀ l ∈ r, areDig b l = true) → n + 10000 * r.length ≤ 9000000000 → r.foldl (fun n x => w64 (n + numL b.base x)) (n : Int) = ((n + (r.map (nmL b)).sum : Nat) : Int)
  | [], n, _, _ => by simp
  | x :: r, n, hd, hn => by
    simp only [List.length_cons] at hn
    obtain ⟨d1, d2⟩ := numL_dig hv (hd x (by simp))
    have e0 : numL b.base x = (nmL b x : Int) := by unfold nmL; omega
    have e : w64 ((n : Int) + numL b.base x) = ((n + nmL b x : Nat) : Int) := by rw [w64_id (by omega)]; omega
    rw [List.foldl_cons, e, sumW_nat hv r (n + nmL b x) (fun l hl => hd l (by simp [hl])) (by unfold nmL; omega)]
    simp only [List.map_cons, List.sum_cons]
    congr 1
    omega

/-- A right reading's numbers are one of the lists, and its digits theirs. -/
theorem right_in {b : Bk} (hv : Val b) {r : List (List Int)} (h : isRightB b r = true) : r.length = b.cords.length + 1 ∧ r.map (nmL b) ∈ allNs b ∧
    ∀ c, c ≤ b.cords.length → areDig b (r[c]?.getD default) = true ∧ numL b.base (r[c]?.getD default) = (nmL b (r[c]?.getD default) : Int) ∧ (r.map (nmL b))[c]?.getD default = nmL b (r[c]?.getD default) ∧ tieN b.base.toNat b.places.toNat (nmL b (r[c]?.getD default)) = r[c]?.getD default := by
  have hcl := hv.hc
  simp only [isRightB, isSumB, Bool.and_eq_true, decide_eq_true_eq, List.all_eq_true, List.mem_range] at h
  obtain ⟨⟨hlen, hall, hsum⟩, hfit⟩ := h
  have hrow : ∀ c, c ≤ b.cords.length → areDig b (r[c]?.getD default) = true ∧ numL b.base (r[c]?.getD default) = (nmL b (r[c]?.getD default) : Int) ∧ (r.map (nmL b))[c]?.getD default = nmL b (r[c]?.getD default) ∧ tieN b.base.toNat b.places.toNat (nmL b (r[c]?.getD default)) = r[c]?.getD default ∧ nmL b (r[c]?.getD default) < allN b := by
    intro c hc
    have hd := hall _ (mem_getD (show c < r.length by omega))
    obtain ⟨n, h1, h2, h3⟩ := dig_tie hv hd
    have hn : nmL b (r[c]?.getD default) = n := by unfold nmL; omega
    refine ⟨hd, by rw [hn, h1], ?_, by rw [hn, h3], by rw [hn]; exact h2⟩
    have hcr : c < r.length := by omega
    simp [List.getElem?_eq_getElem hcr]
  refine ⟨hlen, ?_, fun c hc => ⟨(hrow c hc).1, (hrow c hc).2.1, (hrow c hc).2.2.1, (hrow c hc).2.2.2.1⟩⟩
  have htop := hrow b.cords.length (Nat.le_refl _)
  have hsw := sumW_nat hv (r.take b.cords.length) 0 (fun l hl => hall l (List.mem_of_mem_take hl)) (by rw [List.length_take]; omega)
  have hsw2 : sumW b.base (r.take b.cords.length) = ((((r.take b.cords.length).map (nmL b)).sum : Nat) : Int) := by
    unfold sumW
    have := hsw
    simpa using this
  have hs : ((r.take b.cords.length).map (nmL b)).sum = nmL b (r[b.cords.length]?.getD default) := by
    rw [hsw2, htop.2.1] at hsum
    omega
  have hr : r.map (nmL b) = [] ++ (r.take b.cords.length).map (nmL b) ++ [([] ++ (r.take b.cords.length).map (nmL b)).sum] := by
    rw [List.nil_append, hs]
    have : r = r.take b.cords.length ++ [r[b.cords.length]?.getD default] := by
      rw [← take_snoc (by omega), ← hlen, List.take_length]
    conv => lhs; rw [this]
    rw [List.map_append, List.map_singleton]
  have hfc : ∀ c, c ≤ b.cords.length → fitsL (cordAt b c) (tieN b.base.toNat b.places.toNat (nmL b (r[c]?.getD default))) = true := by
    intro c hc
    rw [(hrow c hc).2.2.2.1]
    exact hfit c (by omega)
  rw [hr]
  refine sums_in b b.cords.length [] _ (by rw [List.length_map, List.length_take]; omega) (fun c hc => ?_) ?_ ?_
  · have hcr : c < (r.take b.cords.length).length := by rw [List.length_take]; omega
    have e : ((r.take b.cords.length).map (nmL b))[c]?.getD default = nmL b (r[c]?.getD default) := by
      rw [List.getElem?_map, List.getElem?_take_of_lt hc, List.getElem?_eq_getElem (show c < r.length by omega)]
      rfl
    rw [e]
    refine ⟨?_, (hrow c (by omega)).2.2.2.2⟩
    simp only [isN, List.length_nil, Nat.zero_add, Bool.false_or]
    exact hfc c (by omega)
  · rw [List.nil_append, hs]
    exact htop.2.2.2.2
  · rw [List.nil_append, hs]
    have := hfc b.cords.length (Nat.le_refl _)
    unfold cordAt at this
    rwa [if_pos rfl] at this

theorem spanL_map {L : List (List Nat)} (f : List Nat → Int) (h : 0 < L.length) : (∃ l ∈ L, (spanL (L.map f) L.length).lo = f l) ∧ (∃ l ∈ L, (spanL (L.map f) L.length).hi = f l) ∧ ∀ l ∈ L, (spanL (L.map f) L.length).lo ≤ f l ∧ f l ≤ (spanL (L.map f) L.length).hi := by
  obtain ⟨⟨x, hx, h1⟩, ⟨y, hy, h2⟩, h3⟩ := spanL_spec (L.map f) (by simpa using h) L.length h (by simp)
  have e : (L.map f).take L.length = L.map f := List.take_of_length_le (by simp)
  rw [e] at hx hy h3
  obtain ⟨l, hl, rfl⟩ := List.mem_map.1 hx
  obtain ⟨k, hk, rfl⟩ := List.mem_map.1 hy
  exact ⟨⟨l, hl, h1⟩, ⟨k, hk, h2⟩, fun m hm => h3 _ (List.mem_map.2 ⟨m, hm, rfl⟩)⟩

/-! Greater digits, a greater number. -/
def le2 (base : Int) : List Int → List Int → Prop
  | [], [] => True
  | a :: x, b :: y => (0 ≤ a ∧ a ≤ b ∧ b < base) ∧ le2 base x y
  | _, _ => False

theorem numL_mono {base : Int} (hb : 2 ≤ base ∧ base ≤ 10) : ∀ (x y : List Int) (k : Nat) (n m : Int), le2 base x y → 0 ≤ n → n ≤ m → m < ((10 ^ k : Nat) : Int) → k + x.length ≤ 4 →
    x.foldl (fun n d => w64 (w64 (n * base) + d)) n ≤ y.foldl (fun n d => w64 (w64 (n * base) + d)) m
  | [], [], _, _, _, _, _, h, _, _ => h
  | a :: x, c :: y, k, n, m, ⟨hac, hxy⟩, hn, hnm, hm, hk => by
    simp only [List.length_cons] at hk
    have h10 : 10 ^ k ≤ 1000 := by
      have : k = 0 ∨ k = 1 ∨ k = 2 ∨ k = 3 := by omega
      rcases this with rfl | rfl | rfl | rfl <;> decide
    have n1 : 0 ≤ n * base := Int.mul_nonneg hn (by omega)
    have n2 : n * base ≤ m * base := Int.mul_le_mul_of_nonneg_right hnm (by omega)
    have n3 : m * base ≤ m * 10 := Int.mul_le_mul_of_nonneg_left hb.2 (by omega)
    have e1 : w64 (n * base) = n * base := w64_id (by omega)
    have e2 : w64 (n * base + a) = n * base + a := w64_id (by omega)
    have e3 : w64 (m * base) = m * base := w64_id (by omega)
    have e4 : w64 (m * base + c) = m * base + c := w64_id (by omega)
    simp only [List.foldl_cons, e1, e2, e3, e4]
    exact numL_mono hb x y (k + 1) _ _ hxy (by omega) (by omega) (by rw [Nat.pow_succ]; omega) (by omega)

theorem fits_le2 {base : Int} : ∀ (l : List Sp) (ds : List Int), ds.length = l.length → (∀ s ∈ l, 0 ≤ s.lo ∧ s.lo ≤ s.hi ∧ s.hi < base) → (∀ i, i < l.length → within (ds[i]?.getD default) (l[i]?.getD default).lo (l[i]?.getD default).hi = true) →
    le2 base (l.map fun s => s.lo) ds ∧ le2 base ds (l.map fun s => s.hi)
  | [], [], _, _, _ => ⟨trivial, trivial⟩
  | s :: l, d :: ds, h, hs, hw => by
    have h0 := hw 0 (by simp)
    simp only [List.getElem?_cons_zero, Option.getD_some] at h0
    have h0' : s.lo ≤ d ∧ d ≤ s.hi := by simpa [within] using h0
    have hs0 := hs s (by simp)
    obtain ⟨a1, a2⟩ := fits_le2 l ds (by simpa using h) (fun t ht => hs t (by simp [ht])) fun i hi => by
      have := hw (i + 1) (by simpa using hi)
      simpa using this
    have b1 : d < base := by omega
    have b2 : 0 ≤ d := by omega
    exact ⟨⟨⟨hs0.1, h0'.1, b1⟩, a1⟩, ⟨⟨b2, h0'.2, hs0.2.2⟩, a2⟩⟩
  | [], _ :: _, h, _, _ => by simp at h
  | _ :: _, [], h, _, _ => by simp at h

/-- The number of a cord is between its ends. -/
theorem ends_in {b : Bk} (hv : Val b) {l : List Nat} (hl : l ∈ allNs b) {c : Nat} (hc : c ≤ b.cords.length) :
    (endsL b.base (cordAt b c)).lo ≤ ((l[c]?.getD default : Nat) : Int) ∧ ((l[c]?.getD default : Nat) : Int) ≤ (endsL b.base (cordAt b c)).hi := by
  have hbb := hv.hb
  have hpp := hv.hp
  obtain ⟨h1, h2⟩ := cordAt_val hv hc
  have hf := all_fits hl hc
  unfold fitsL at hf
  rw [List.all_eq_true] at hf
  obtain ⟨hm1, hm2⟩ := allNs_mem hl
  have hx : l[c]?.getD default < allN b := hm2 _ (mem_getD (by omega))
  have hBb : ((b.base.toNat : Nat) : Int) = b.base := by omega
  have hnum := numL_tie b.base.toNat (by omega) b.places.toNat (l[c]?.getD default) (by omega) hx
  rw [hBb] at hnum
  obtain ⟨a1, a2⟩ := fits_le2 (cordAt b c) (tieN b.base.toNat b.places.toNat (l[c]?.getD default)) (by rw [tieN_len]; omega) h2 fun i hi => hf i (by simpa using hi)
  have m1 := numL_mono hv.hb _ _ 0 0 0 a1 (by omega) (by omega) (by simp) (by rw [List.length_map]; omega)
  have m2 := numL_mono hv.hb _ _ 0 0 0 a2 (by omega) (by omega) (by simp) (by rw [tieN_len]; omega)
  rw [ends_num]
  unfold numL at hnum ⊢
  rw [hnum] at m1 m2
  exact ⟨m1, m2⟩

end Go.Proofs.Ytkkiipjfbebipaa
