/- Merged by program: T32, T33, T34, T34b, T37, T52, T53, T54. -/
import Derived.Test.YtkkiipjfbebipaaM5
import Derived.Test.YtkkiipjfbebipaaChecked
/- Plain law 5: what a loom reckons is what the lists of numbers say. -/
set_option linter.unusedSimpArgs false
set_option linter.unusedVariables false
set_option linter.unnecessarySimpa false
namespace Go.Proofs.Ytkkiipjfbebipaa
open Go Go.V

/-! ### sums of whole numbers -/
def isum (n : Nat) (f : Nat → Int) : Int := (List.range n).foldl (fun a i => a + f i) 0

theorem isum_zero (f : Nat → Int) : isum 0 f = 0 := rfl
theorem isum_succ (n : Nat) (f : Nat → Int) : isum (n + 1) f = isum n f + f n := by
  unfold isum
  rw [List.range_succ, List.foldl_append]
  rfl
theorem isum_congr {n : Nat} {f g : Nat → Int} (h : ∀ i, i < n → f i = g i) : isum n f = isum n g := by
  induction n with
  | zero => rfl
  | succ n ih => rw [isum_succ, isum_succ, ih fun i hi => h i (by omega), h n (by omega)]
theorem isum_add (n : Nat) (f g : Nat → Int) : (isum n fun i => f i + g i) = isum n f + isum n g := by
  induction n with
  | zero => rfl
  | succ n ih => rw [isum_succ, isum_succ, isum_succ, ih]; omega
theorem isum_const0 (n : Nat) : (isum n fun _ => 0) = 0 := by
  induction n with
  | zero => rfl
  | succ n ih => rw [isum_succ, ih]; rfl
theorem isum_comm (n m : Nat) (f : Nat → Nat → Int) : (isum n fun i => isum m (f i)) = isum m fun j => isum n fun i => f i j := by
  induction n with
  | zero =>
    have : (isum m fun j => isum 0 fun i => f i j) = isum m fun _ => 0 := isum_congr fun j _ => rfl
    rw [this, isum_const0]; rfl
  | succ n ih =>
    rw [isum_succ, ih, ← isum_add]
    exact isum_congr fun j _ => by rw [isum_succ]
theorem isum_nonneg {n : Nat} {f : Nat → Int} (h : ∀ i, i < n → 0 ≤ f i) : 0 ≤ isum n f := by
  induction n with
  | zero => exact Int.le_refl _
  | succ n ih =>
    rw [isum_succ]
    have := ih fun i hi => h i (by omega)
    have := h n (by omega)
    omega
theorem isum_eq0 {n : Nat} {f : Nat → Int} (h : ∀ i, i < n → 0 ≤ f i) : isum n f = 0 ↔ ∀ i, i < n → f i = 0 := by
  induction n with
  | zero => exact ⟨fun _ i hi => by omega, fun _ => rfl⟩
  | succ n ih =>
    rw [isum_succ]
    have h1 := isum_nonneg (n := n) (f := f) fun i hi => h i (by omega)
    have h2 := h n (by omega)
    have ih := ih fun i hi => h i (by omega)
    constructor
    · intro e i hi
      rcases Nat.lt_or_ge i n with hl | hl
      · exact ih.1 (by omega) i hl
      · have : i = n := by omega
        subst this
        omega
    · intro e
      have := ih.2 fun i hi => e i (by omega)
      have := e n (by omega)
      omega

/-! ### sums and remainders -/
theorem sum_divmod (N : Nat) (t : List Nat) : t.sum = (t.map (· / N)).sum * N + (t.map (· % N)).sum := by
  induction t with
  | nil => simp
  | cons x r ih =>
    simp only [List.sum_cons, List.map_cons, Nat.add_mul]
    have := Nat.div_add_mod x N
    rw [Nat.mul_comm] at this
    omega

theorem sum_div {N : Nat} (hN : 0 < N) (t : List Nat) : (t.map (· / N)).sum + (t.map (· % N)).sum / N = t.sum / N := by
  rw [sum_divmod N t, Nat.mul_comm, Nat.mul_add_div hN]

theorem sum_mod (N : Nat) (t : List Nat) : (t.map (· % N)).sum % N = t.sum % N := by
  rw [sum_divmod N t, Nat.mul_comm, Nat.mul_add_mod]

theorem carT_eq {B : Nat} (hB : 0 < B) : ∀ (k : Nat) (t : List Nat), (∀ x ∈ t, x < B ^ k) → carT B k t = t.sum / B ^ k
  | 0, t, h => by
    have : t.sum = 0 := by
      induction t with
      | nil => rfl
      | cons x r ih =>
        have := h x (by simp)
        rw [List.sum_cons, ih fun y hy => h y (by simp [hy])]
        simp at this
        omega
    simp [carT, this]
  | k + 1, t, h => by
    have hp : 0 < B ^ k := Nat.pow_pos hB
    rw [carT, carT_eq hB k _ (fun x hx => by
      obtain ⟨y, _, rfl⟩ := List.mem_map.1 hx
      exact Nat.mod_lt _ hp), sum_div hp, Nat.div_div_eq_div_mul, Nat.pow_succ]

theorem colT_eq {B : Nat} (hB : 0 < B) (k : Nat) (t : List Nat) : colT B k t = t.sum / B ^ k := by
  have hp : 0 < B ^ k := Nat.pow_pos hB
  rw [colT, carT_eq hB k _ (fun x hx => by
      obtain ⟨y, _, rfl⟩ := List.mem_map.1 hx
      exact Nat.mod_lt _ hp), sum_div hp]

theorem map_mod_mod {B k K : Nat} (h : k ≤ K) (t : List Nat) : (t.map (· % B ^ K)).map (· % B ^ k) = t.map (· % B ^ k) := by
  rw [List.map_map]
  apply List.map_congr_left
  intro x _
  exact Nat.mod_mod_of_dvd x (Nat.pow_dvd_pow B h)

theorem map_mod_self {N : Nat} {t : List Nat} (h : ∀ x ∈ t, x < N) : t.map (· % N) = t := by
  induction t with
  | nil => rfl
  | cons x r ih => rw [List.map_cons, Nat.mod_eq_of_lt (h x (by simp)), ih fun y hy => h y (by simp [hy])]

/-! ### readings -/
/-- A digit of a number of a reading. -/
def dgN (b : Bk) (l : List Nat) (c p : Nat) : Nat := (l[c]?.getD default) / b.base.toNat ^ (b.places.toNat - 1 - p) % b.base.toNat

/-- What is carried from a place. -/
def carN (b : Bk) (l : List Nat) (p : Nat) : Nat := ((l.take b.cords.length).map (· % b.base.toNat ^ (b.places.toNat - p))).sum / b.base.toNat ^ (b.places.toNat - p)

def allOK (b : Bk) (may : Nat → Nat → Nat → Bool) (carry : Nat → Nat → Bool) (l : List Nat) : Bool :=
  (List.range b.places.toNat).all fun p => ((List.range (b.cords.length + 1)).all fun c => may c p (dgN b l c p)) && carry p (carN b l p)

def cordSp (b : Bk) (c p : Nat) : Sp := (cordAt b c)[p]?.getD default

def costN (b : Bk) (l : List Nat) : Int := isum (b.cords.length + 1) fun c => isum b.places.toNat fun p => costL (cordSp b c p) (dgN b l c p : Nat)

/-- One place of 'okT'. -/
def okP (b : Bk) (may : Nat → Nat → Nat → Bool) (carry : Nat → Nat → Bool) (k : Nat) (u : List Nat) : Bool :=
  colOK may (b.places.toNat - 1 - k) b.cords.length (u.map (· / b.base.toNat ^ k)) &&
      (may b.cords.length (b.places.toNat - 1 - k) (colT b.base.toNat k u % b.base.toNat) && carry (b.places.toNat - 1 - k) (colT b.base.toNat k u / b.base.toNat))

def costP (b : Bk) (k : Nat) (u : List Nat) : Int :=
  colCost b (b.places.toNat - 1 - k) b.cords.length (u.map (· / b.base.toNat ^ k)) + costL (topAt b (b.places.toNat - 1 - k)) (colT b.base.toNat k u % b.base.toNat : Nat)

theorem okT_places (b : Bk) (may : Nat → Nat → Nat → Bool) (carry : Nat → Nat → Bool) : ∀ (K : Nat) (t : List Nat), (∀ x ∈ t, x < b.base.toNat ^ K) →
    (okT b may carry K t = true ↔ ∀ k, k < K → okP b may carry k (t.map (· % b.base.toNat ^ (k + 1))) = true)
  | 0, t, _ => ⟨fun _ k hk => by omega, fun _ => rfl⟩
  | K + 1, t, h => by
    by_cases hB : b.base.toNat = 0
    · -- no number is below 0
      cases t with
      | nil =>
        have ih := okT_places b may carry K [] (by simp)
        show (okT b may carry K ([].map _) && okP b may carry K []) = true ↔ _
        rw [Bool.and_eq_true]
        simp only [List.map_nil] at ih ⊢
        rw [ih]
        constructor
        · rintro ⟨h1, h2⟩ k hk
          rcases Nat.lt_or_ge k K with hl | hl
          · exact h1 k hl
          · have : k = K := by omega
            subst this
            exact h2
        · intro h1
          exact ⟨fun k hk => h1 k (by omega), h1 K (by omega)⟩
      | cons x r =>
        have := h x (by simp)
        rw [hB, Nat.zero_pow (by omega)] at this
        omega
    · have hp : 0 < b.base.toNat ^ K := Nat.pow_pos (by omega)
      have ih := okT_places b may carry K (t.map (· % b.base.toNat ^ K)) (fun x hx => by
        obtain ⟨y, _, rfl⟩ := List.mem_map.1 hx
        exact Nat.mod_lt _ hp)
      show (okT b may carry K (t.map (· % b.base.toNat ^ K)) && okP b may carry K t) = true ↔ _
      rw [Bool.and_eq_true, ih]
      constructor
      · rintro ⟨h1, h2⟩ k hk
        rcases Nat.lt_or_ge k K with hl | hl
        · have := h1 k hl
          rwa [map_mod_mod (by omega)] at this
        · have : k = K := by omega
          subst this
          rw [map_mod_self h]
          exact h2
      · intro h1
        refine ⟨fun k hk => ?_, ?_⟩
        · rw [map_mod_mod (by omega)]
          exact h1 k (by omega)
        · have := h1 K (by omega)
          rwa [map_mod_self h] at this

theorem costT_places (b : Bk) (hB : 0 < b.base.toNat) : ∀ (K : Nat) (t : List Nat), (∀ x ∈ t, x < b.base.toNat ^ K) →
    costT b K t = isum K fun k => costP b k (t.map (· % b.base.toNat ^ (k + 1)))
  | 0, t, _ => rfl
  | K + 1, t, h => by
    have hp : 0 < b.base.toNat ^ K := Nat.pow_pos hB
    have ih := costT_places b hB K (t.map (· % b.base.toNat ^ K)) (fun x hx => by
        obtain ⟨y, _, rfl⟩ := List.mem_map.1 hx
        exact Nat.mod_lt _ hp)
    rw [isum_succ, map_mod_self h, costT, ih, Int.add_assoc]
    rw [show costP b K t = _ from rfl, costP]
    congr 1
    exact isum_congr fun k hk => by rw [map_mod_mod (by omega)]

/-- The digits and the sum's digit at a place. -/
theorem place_digits {b : Bk} (hB : 0 < b.base.toNat) {t : List Nat} (ht : t.length = b.cords.length) {k : Nat} (hk : k < b.places.toNat) :
    (∀ c, c < b.cords.length → ((t.map (· % b.base.toNat ^ (k + 1))).map (· / b.base.toNat ^ k))[c]?.getD default = dgN b (t ++ [t.sum]) c (b.places.toNat - 1 - k)) ∧
    colT b.base.toNat k (t.map (· % b.base.toNat ^ (k + 1))) % b.base.toNat = dgN b (t ++ [t.sum]) b.cords.length (b.places.toNat - 1 - k) ∧
    colT b.base.toNat k (t.map (· % b.base.toNat ^ (k + 1))) / b.base.toNat = carN b (t ++ [t.sum]) (b.places.toNat - 1 - k) := by
  have e0 : b.places.toNat - 1 - (b.places.toNat - 1 - k) = k := by omega
  have e1 : b.places.toNat - (b.places.toNat - 1 - k) = k + 1 := by omega
  refine ⟨fun c hc => ?_, ?_, ?_⟩
  · have hc2 : c < t.length := by omega
    unfold dgN
    rw [e0, List.getElem?_append_left hc2]
    simp only [List.getElem?_map, List.getElem?_eq_getElem hc2, Option.map_some, Option.getD_some]
    rw [Nat.pow_succ, Nat.mod_mul_right_div_self]
  · unfold dgN
    rw [colT_eq hB, e0, ← ht, List.getElem?_append_right (Nat.le_refl _)]
    simp only [Nat.sub_self, List.getElem?_cons_zero, Option.getD_some]
    rw [← Nat.mod_mul_right_div_self, ← Nat.mod_mul_right_div_self, ← Nat.pow_succ, sum_mod]
  · unfold carN
    rw [colT_eq hB, e1, ← ht, List.take_left, Nat.div_div_eq_div_mul, ← Nat.pow_succ]

theorem okT_all {b : Bk} (hB : 0 < b.base.toNat) (may : Nat → Nat → Nat → Bool) (carry : Nat → Nat → Bool) {t : List Nat} (ht : t ∈ tup b.cords.length (b.base.toNat ^ b.places.toNat)) :
    okT b may carry b.places.toNat t = allOK b may carry (t ++ [t.sum]) := by
  obtain ⟨hl, hlt⟩ := tup_mem.1 ht
  rw [Bool.eq_iff_iff, okT_places b may carry _ t hlt]
  unfold allOK
  rw [List.all_eq_true]
  have key : ∀ k, k < b.places.toNat → (okP b may carry k (t.map (· % b.base.toNat ^ (k + 1))) = true ↔
      (((List.range (b.cords.length + 1)).all fun c => may c (b.places.toNat - 1 - k) (dgN b (t ++ [t.sum]) c (b.places.toNat - 1 - k))) && carry (b.places.toNat - 1 - k) (carN b (t ++ [t.sum]) (b.places.toNat - 1 - k))) = true) := by
    intro k hk
    obtain ⟨d1, d2, d3⟩ := place_digits hB hl hk
    unfold okP colOK
    rw [d2, d3]
    simp only [Bool.and_eq_true, List.all_eq_true, List.mem_range]
    constructor
    · rintro ⟨h1, h2, h3⟩
      refine ⟨fun c hc => ?_, h3⟩
      rcases Nat.lt_or_ge c b.cords.length with h | h
      · rw [← d1 c h]; exact h1 c h
      · rw [show c = b.cords.length by omega]; exact h2
    · rintro ⟨h1, h3⟩
      exact ⟨fun c hc => by rw [d1 c hc]; exact h1 c (by omega), h1 _ (by omega), h3⟩
  constructor
  · intro h p hp
    have hp := List.mem_range.1 hp
    have := (key (b.places.toNat - 1 - p) (by omega)).1 (h _ (by omega))
    rwa [show b.places.toNat - 1 - (b.places.toNat - 1 - p) = p by omega] at this
  · intro h k hk
    exact (key k hk).2 (h _ (List.mem_range.2 (by omega)))

/-- The other way through a sum. -/
theorem isum_rev (n : Nat) (f : Nat → Int) : (isum n fun k => f (n - 1 - k)) = isum n f := by
  have key : ∀ m, m ≤ n → (isum m fun k => f (n - 1 - k)) + isum (n - m) f = isum n f := by
    intro m
    induction m with
    | zero => intro _; rw [isum_zero, Nat.sub_zero, Int.zero_add]
    | succ m ih =>
      intro h
      have := ih (by omega)
      rw [isum_succ]
      rw [show n - m = (n - (m + 1)) + 1 by omega, isum_succ] at this
      rw [show n - 1 - m = n - (m + 1) by omega]
      omega
  have := key n (Nat.le_refl _)
  rw [Nat.sub_self, isum_zero] at this
  omega

theorem costT_all {b : Bk} (hB : 0 < b.base.toNat) {t : List Nat} (ht : t ∈ tup b.cords.length (b.base.toNat ^ b.places.toNat)) :
    costT b b.places.toNat t = costN b (t ++ [t.sum]) := by
  obtain ⟨hl, hlt⟩ := tup_mem.1 ht
  rw [costT_places b hB _ t hlt]
  unfold costN
  rw [isum_comm]
  refine Eq.trans (isum_congr fun k hk => ?_) (isum_rev b.places.toNat _)
  obtain ⟨d1, d2, d3⟩ := place_digits hB hl hk
  unfold costP
  rw [d2, isum_succ]
  have e2 : cordSp b b.cords.length (b.places.toNat - 1 - k) = topAt b (b.places.toNat - 1 - k) := by simp [cordSp, cordAt, topAt]
  rw [e2]
  congr 1
  show isum b.cords.length _ = _
  refine isum_congr fun c hc => ?_
  rw [d1 c hc]
  have : cordSp b c (b.places.toNat - 1 - k) = spAt b c (b.places.toNat - 1 - k) := by
    unfold cordSp cordAt spAt
    rw [if_neg (by omega)]
  rw [this]

theorem tieN_at (B : Nat) : ∀ (P n p : Nat), p < P → (tieN B P n)[p]?.getD default = ((n / B ^ (P - 1 - p) % B : Nat) : Int)
  | 0, _, _, h => by omega
  | P + 1, n, p, h => by
    rcases Nat.lt_or_ge p P with hl | hl
    · rw [tieN, List.getElem?_append_left (by rw [tieN_len]; exact hl), tieN_at B P _ p hl, Nat.div_div_eq_div_mul, Nat.mul_comm, ← Nat.pow_succ]
      congr 4
      omega
    · have : p = P := by omega
      subst this
      rw [tieN, List.getElem?_append_right (by rw [tieN_len]; omega), tieN_len]
      simp

theorem costL_zero {s : Sp} {d : Int} : costL s d = 0 ↔ within d s.lo s.hi = true := by
  unfold costL within
  simp only [decide_eq_true_eq]
  omega

theorem fits_cost {b : Bk} (hv : Val b) {c : Nat} (hc : c ≤ b.cords.length) (l : List Nat) : fitsL (cordAt b c) (tieN b.base.toNat b.places.toNat (l[c]?.getD default)) = true ↔ (isum b.places.toNat fun p => costL (cordSp b c p) (dgN b l c p : Nat)) = 0 := by
  have hlen := (cordAt_val hv hc).1
  rw [isum_eq0 fun p _ => costL_nonneg _ _]
  unfold fitsL
  rw [List.all_eq_true]
  have hl2 : (cordAt b c).length = b.places.toNat := by omega
  rw [hl2]
  constructor
  · intro h p hp
    have := h p (List.mem_range.2 hp)
    rw [tieN_at _ _ _ _ hp] at this
    exact costL_zero.2 this
  · intro h p hp
    have hp := List.mem_range.1 hp
    rw [tieN_at _ _ _ _ hp]
    exact costL_zero.1 (h p hp)

/-- The reference's lists as sums over tuples. -/
theorem sumF_sumsN (b : Bk) (freely : Bool) : ∀ (k : Nat) (first : List Nat) (g : List Nat → Nat),
    sumF (sumsN b freely k first) g = sumF (tup k (allN b)) fun t => if ((List.range k).all fun c => isN b (first.length + c) freely (t[c]?.getD default)) && (decide ((first ++ t).sum < allN b) && (freely || fitsL b.top (tieN b.base.toNat b.places.toNat (first ++ t).sum))) then g (first ++ t ++ [(first ++ t).sum]) else 0
  | 0, first, g => by
    simp only [sumsN, tup, sumF_cons, sumF_nil, List.range_zero, List.all_nil, Bool.true_and, List.append_nil, Nat.add_zero]
    split
    · rw [sumF_cons, sumF_nil, Nat.add_zero]
    · rfl
  | k + 1, first, g => by
    rw [sumsN, sumF_flatMap, sumF_filter, sumF_tup_succ]
    refine sumF_congr fun n _ => ?_
    rw [sumF_sumsN b freely k (first ++ [n]) g, sumF_if]
    refine sumF_congr fun t _ => ?_
    have e : ((List.range (k + 1)).all fun c => isN b (first.length + c) freely ((n :: t)[c]?.getD default)) = (isN b first.length freely n && (List.range k).all fun c => isN b ((first ++ [n]).length + c) freely (t[c]?.getD default)) := by
      rw [List.range_succ_eq_map, List.all_cons, List.all_map]
      simp only [Nat.add_zero, List.getElem?_cons_zero, Option.getD_some]
      congr 2
      funext c
      simp only [Function.comp_apply, List.getElem?_cons_succ, List.length_append, List.length_cons, List.length_nil]
      rw [show first.length + c.succ = first.length + (0 + 1) + c by omega]
    rw [e]
    simp only [List.append_assoc, List.singleton_append]
    by_cases h : isN b first.length freely n = true
    · simp [h]
    · simp [h]

theorem mem_of_sumF {α : Type} [DecidableEq α] (l : List α) (a : α) : 0 < (sumF l fun x => if x = a then 1 else 0) ↔ a ∈ l := by
  rw [sumF_pos]
  constructor
  · rintro ⟨x, hx, h⟩
    by_cases e : x = a
    · subst e; exact hx
    · rw [if_neg e] at h; omega
  · intro h
    exact ⟨a, h, by simp⟩

/-- Right readings that a loom lets be, counted. -/
theorem solveL_r {b : Bk} (hv : Val b) (may : Nat → Nat → Nat → Bool) (carry : Nat → Nat → Bool) :
    (solveL b may carry).r = ((sumF (allNs b) fun l => if allOK b may carry l then 1 else 0 : Nat) : Int) := by
  have hB : 0 < b.base.toNat := by have := hv.hb; omega
  have hp : 0 < b.base.toNat ^ b.places.toNat := Nat.pow_pos hB
  rw [(solveL_sem hv may carry).1]
  have h0 := solveW_LK b may carry b.places.toNat (Nat.le_refl _)
  rw [Nat.sub_self] at h0
  rw [show [((0 : Nat), (0 : Int))] = LK b may carry 0 from rfl, h0, sumF_LK, allNs, sumF_sumsN]
  congr 1
  refine sumF_congr fun t ht => ?_
  have hl := (tup_mem.1 ht).1
  rw [okT_all hB may carry ht, costT_all hB ht, carT_eq hB _ _ (tup_mem.1 ht).2]
  simp only [List.nil_append, Bool.false_or, List.length_nil, Nat.zero_add]
  have e1 : t.sum / b.base.toNat ^ b.places.toNat = 0 ↔ t.sum < allN b := by
    unfold allN
    rw [Nat.div_eq_zero_iff]
    constructor
    · rintro (h | h)
      · omega
      · exact h
    · exact .inr
  have hnn : ∀ c, 0 ≤ isum b.places.toNat fun p => costL (cordSp b c p) (dgN b (t ++ [t.sum]) c p : Nat) := fun c => isum_nonneg fun p _ => costL_nonneg _ _
  have e2 : costN b (t ++ [t.sum]) = 0 ↔ (((List.range b.cords.length).all fun c => isN b c false (t[c]?.getD default)) && fitsL b.top (tieN b.base.toNat b.places.toNat t.sum)) = true := by
    unfold costN
    rw [isum_eq0 fun c _ => hnn c, Bool.and_eq_true, List.all_eq_true]
    have k1 : ∀ c, c < b.cords.length → (t ++ [t.sum])[c]?.getD default = t[c]?.getD default := fun c hc => by rw [List.getElem?_append_left (by omega)]
    have k2 : (t ++ [t.sum])[b.cords.length]?.getD default = t.sum := by rw [← hl, List.getElem?_append_right (Nat.le_refl _)]; simp
    constructor
    · intro h
      refine ⟨fun c hc => ?_, ?_⟩
      · have hc := List.mem_range.1 hc
        unfold isN
        rw [Bool.false_or, ← k1 c hc]
        exact (fits_cost hv (by omega) _).2 (h c (by omega))
      · have := (fits_cost hv (Nat.le_refl _) (t ++ [t.sum])).2 (h _ (by omega))
        rw [k2] at this
        simpa [cordAt] using this
    · rintro ⟨h1, h2⟩ c hc
      rcases Nat.lt_or_ge c b.cords.length with h | h
      · have := h1 c (List.mem_range.2 h)
        unfold isN at this
        rw [Bool.false_or, ← k1 c h] at this
        exact (fits_cost hv (by omega) _).1 this
      · have hc2 : c = b.cords.length := by omega
        subst hc2
        refine (fits_cost hv (Nat.le_refl _) (t ++ [t.sum])).1 ?_
        rw [k2]
        simpa [cordAt] using h2
  simp only [e1, e2]
  by_cases q1 : allOK b may carry (t ++ [t.sum]) = true
  · simp only [q1, if_true]
    by_cases q2 : t.sum < allN b
    · simp only [q2, true_and, decide_true, Bool.true_and]
    · simp [q2]
  · simp [q1]

/-- The fewest knots, by the lists of any numbers. -/
theorem solveL_k {b : Bk} (hv : Val b) (may : Nat → Nat → Nat → Bool) (carry : Nat → Nat → Bool) :
    (∀ l ∈ sumsN b true b.cords.length [], allOK b may carry l = true → (solveL b may carry).k ≤ costN b l) ∧
    ((solveL b may carry).k = 1048576 ∨ ∃ l ∈ sumsN b true b.cords.length [], allOK b may carry l = true ∧ costN b l = (solveL b may carry).k) := by
  have hB : 0 < b.base.toNat := by have := hv.hb; omega
  have hp : 0 < b.base.toNat ^ b.places.toNat := Nat.pow_pos hB
  obtain ⟨_, s2, s3⟩ := solveL_sem hv may carry
  have h0 := solveW_LK b may carry b.places.toNat (Nat.le_refl _)
  rw [Nat.sub_self] at h0
  rw [show [((0 : Nat), (0 : Int))] = LK b may carry 0 from rfl, h0] at s2 s3
  have e1 : ∀ t : List Nat, t.sum / b.base.toNat ^ b.places.toNat = 0 ↔ t.sum < allN b := by
    intro t
    unfold allN
    rw [Nat.div_eq_zero_iff]
    constructor
    · rintro (h | h)
      · omega
      · exact h
    · exact .inr
  have m1 : ∀ x : Nat × Int, x ∈ LK b may carry b.places.toNat ↔ ∃ t ∈ tup b.cords.length (allN b), allOK b may carry (t ++ [t.sum]) = true ∧ x = (t.sum / b.base.toNat ^ b.places.toNat, costN b (t ++ [t.sum])) := by
    intro x
    rw [← mem_of_sumF, sumF_LK, sumF_pos]
    constructor
    · rintro ⟨t, ht, h⟩
      refine ⟨t, ht, ?_⟩
      rw [okT_all hB may carry ht, costT_all hB ht, carT_eq hB _ _ (tup_mem.1 ht).2] at h
      by_cases q : allOK b may carry (t ++ [t.sum]) = true
      · refine ⟨q, ?_⟩
        rw [if_pos q] at h
        by_cases q2 : (t.sum / b.base.toNat ^ b.places.toNat, costN b (t ++ [t.sum])) = x
        · exact q2.symm
        · rw [if_neg q2] at h; omega
      · rw [if_neg q] at h; omega
    · rintro ⟨t, ht, h1, h2⟩
      refine ⟨t, ht, ?_⟩
      rw [okT_all hB may carry ht, costT_all hB ht, carT_eq hB _ _ (tup_mem.1 ht).2, if_pos h1, if_pos h2.symm]
      omega
  have m2 : ∀ l : List Nat, l ∈ sumsN b true b.cords.length [] ↔ ∃ t ∈ tup b.cords.length (allN b), t.sum < allN b ∧ l = t ++ [t.sum] := by
    intro l
    rw [← mem_of_sumF, sumF_sumsN, sumF_pos]
    have e3 : ∀ t : List Nat, ((List.range b.cords.length).all fun c => isN b (([] : List Nat).length + c) true (t[c]?.getD default)) = true := by
      intro t
      rw [List.all_eq_true]
      intro c _
      rfl
    constructor
    · rintro ⟨t, ht, h⟩
      rw [e3] at h
      simp only [List.nil_append, Bool.true_or, Bool.and_true, Bool.true_and, decide_eq_true_eq] at h
      refine ⟨t, ht, ?_⟩
      by_cases q : t.sum < allN b
      · rw [if_pos q] at h
        by_cases q2 : t ++ [t.sum] = l
        · exact ⟨q, q2.symm⟩
        · rw [if_neg q2] at h; omega
      · rw [if_neg q] at h; omega
    · rintro ⟨t, ht, h1, h2⟩
      refine ⟨t, ht, ?_⟩
      rw [e3]
      simp only [List.nil_append, Bool.true_or, Bool.and_true, Bool.true_and, decide_eq_true_eq]
      rw [if_pos h1, if_pos h2.symm]
      omega
  refine ⟨fun l hl ho => ?_, ?_⟩
  · obtain ⟨t, ht, h1, rfl⟩ := (m2 l).1 hl
    have := s2 (t.sum / b.base.toNat ^ b.places.toNat, costN b (t ++ [t.sum])) ((m1 _).2 ⟨t, ht, ho, rfl⟩) ((e1 t).2 h1)
    exact this
  · rcases s3 with h | ⟨x, hx, h1, h2⟩
    · exact .inl h
    · obtain ⟨t, ht, ho, rfl⟩ := (m1 x).1 hx
      exact .inr ⟨t ++ [t.sum], (m2 _).2 ⟨t, ht, (e1 t).1 h1, rfl⟩, ho, h2⟩

end Go.Proofs.Ytkkiipjfbebipaa

/- The chapter's examples; works. -/
set_option linter.unusedSimpArgs false
set_option linter.unusedVariables false
set_option linter.unnecessarySimpa false
namespace Go.Proofs.Ytkkiipjfbebipaa
open Go Go.V

def bkK : Bk := ⟨10, 2, [[⟨1, 1⟩, ⟨2, 3⟩], [⟨0, 1⟩, ⟨5, 5⟩]], [⟨2, 2⟩, ⟨7, 8⟩]⟩
def bkL : Bk := ⟨10, 1, [[⟨3, 3⟩], [⟨4, 4⟩]], [⟨9, 9⟩]⟩

theorem ckK : checkB bkK = true := by kernel_rfl
theorem ckL : checkB bkL = true := by kernel_rfl
theorem smK : Small bkK := ⟨by decide, by decide, by decide⟩
theorem smL : Small bkL := ⟨by decide, by decide, by decide⟩
theorem allK : allNs bkK = [[12, 15, 27], [13, 15, 28]] := by kernel_rfl

/-! ### by the list of all right readings -/
def manyR (b : Bk) (L : List (List Nat)) (may : Nat → Nat → Nat → Bool) (carry : Nat → Nat → Bool) (c p d : Nat) : Int := ((sumF L fun l => if allOK b (onlyF may c p d) carry l then 1 else 0 : Nat) : Int)
def spanR (b : Bk) (L : List (List Nat)) (may : Nat → Nat → Nat → Bool) (carry : Nat → Nat → Bool) (cord place : Nat) (m : Nat) : Sp :=
  (List.range m).foldl (fun s d => if 0 < manyR b L may carry cord place d then ⟨min s.lo d, max s.hi d⟩ else s) ⟨b.base, 0⟩
def endR (b : Bk) (L : List (List Nat)) (carry : Nat → Nat → Bool) (cord : Nat) (sel : Sp → Int) : Nat → Nat → (Nat → Nat → Nat → Bool) → Int → Int
  | _, 0, _, n => n
  | p, k + 1, may, n => endR b L carry cord sel (p + 1) k (onlyF may cord p (sel (spanR b L may carry cord p b.base.toNat)).toNat) (numL b.base [n, sel (spanR b L may carry cord p b.base.toNat)])

theorem manyD_R {b : Bk} (hv : Val b) (may : Nat → Nat → Nat → Bool) (carry : Nat → Nat → Bool) (c p d : Nat) : manyD b may carry c p d = manyR b (allNs b) may carry c p d := solveL_r hv _ _
theorem spanD_R {b : Bk} (hv : Val b) (may : Nat → Nat → Nat → Bool) (carry : Nat → Nat → Bool) (c p m : Nat) : spanD b may carry c p m = spanR b (allNs b) may carry c p m := by
  unfold spanD spanR
  congr 1
  funext s d
  rw [manyD_R hv]
theorem endF_R {b : Bk} (hv : Val b) (carry : Nat → Nat → Bool) (cord : Nat) (sel : Sp → Int) : ∀ (k p : Nat) (may : Nat → Nat → Nat → Bool) (n : Int), endF b carry cord sel p k may n = endR b (allNs b) carry cord sel p k may n
  | 0, _, _, _ => rfl
  | k + 1, p, may, n => by
    rw [endF, endR, spanD_R hv, endF_R hv carry cord sel k]

def worstR (b : Bk) (L : List (List Nat)) (c p k : Nat) : Int :=
  (List.range k).foldl (fun w d => if 0 < manyR b L yes3 yes2 c p d then max w (manyR b L yes3 yes2 c p d) else w) 0
theorem worstD_R {b : Bk} (hv : Val b) (c p k : Nat) : worstD b c p k = worstR b (allNs b) c p k := by
  unfold worstD worstR
  congr 1
  funext w d
  rw [manyD_R hv]

theorem manyK : (solveL bkK yes3 yes2).r = 2 := by
  rw [solveL_r (val_of_check ckK), allK]
  kernel_rfl

theorem sureK : sureD bkK 1 = ⟨15, 15⟩ := by
  unfold sureD
  rw [endF_R (val_of_check ckK), endF_R (val_of_check ckK), allK]
  kernel_rfl

theorem askK : (askD bkK 3).c = 0 ∧ (askD bkK 3).p = 1 := by
  have h := fun c p k => worstD_R (val_of_check ckK) c p k
  rw [allK] at h
  unfold askD askRow askStep
  simp only [h]
  exact ⟨by kernel_rfl, by kernel_rfl⟩

theorem solveL_k_eq {b : Bk} (hv : Val b) (may : Nat → Nat → Nat → Bool) (carry : Nat → Nat → Bool) (z : Int) (hz : z < 1048576)
    (h1 : ((sumsN b true b.cords.length []).all fun l => !allOK b may carry l || decide (z ≤ costN b l)) = true)
    (h2 : ((sumsN b true b.cords.length []).any fun l => allOK b may carry l && decide (costN b l = z)) = true) : (solveL b may carry).k = z := by
  obtain ⟨k1, k2⟩ := solveL_k hv may carry
  rw [List.all_eq_true] at h1
  obtain ⟨l, hl, h2⟩ := List.any_eq_true.1 h2
  simp only [Bool.and_eq_true, decide_eq_true_eq] at h2
  have a1 := k1 l hl h2.1
  rcases k2 with h | ⟨l', hl', h3, h4⟩
  · omega
  · have := h1 l' hl'
    rw [h3] at this
    simp only [Bool.not_true, Bool.false_or, decide_eq_true_eq] at this
    omega

theorem retieL : (solveL bkL yes3 yes2).k = 2 := solveL_k_eq (val_of_check ckL) _ _ 2 (by decide) (by kernel_rfl) (by kernel_rfl)

theorem blameL0 : blameC bkL 0 = true := by
  unfold blameC
  rw [List.any_eq_true]
  refine ⟨0, by decide, ?_⟩
  rw [List.any_eq_true]
  refine ⟨5, by decide, ?_⟩
  unfold blameAt
  rw [retieL, solveL_k_eq (val_of_check ckL) (onlyF yes3 0 0 5) _ 2 (by decide) (by kernel_rfl) (by kernel_rfl)]
  kernel_rfl

theorem blameL1 : blameC bkL 1 = true := by
  unfold blameC
  rw [List.any_eq_true]
  refine ⟨0, by decide, ?_⟩
  rw [List.any_eq_true]
  refine ⟨6, by decide, ?_⟩
  unfold blameAt
  rw [retieL, solveL_k_eq (val_of_check ckL) (onlyF yes3 1 0 6) _ 2 (by decide) (by kernel_rfl) (by kernel_rfl)]
  kernel_rfl

theorem blameL2 : blameC bkL 2 = true := by
  unfold blameC
  rw [List.any_eq_true]
  refine ⟨0, by decide, ?_⟩
  rw [List.any_eq_true]
  refine ⟨7, by decide, ?_⟩
  unfold blameAt
  rw [retieL, solveL_k_eq (val_of_check ckL) (onlyF yes3 2 0 7) _ 2 (by decide) (by kernel_rfl) (by kernel_rfl)]
  kernel_rfl

theorem blameLL : blameL bkL 3 = [0, 1, 2] := by
  rw [blameL_succ, blameL_succ, blameL_succ, blameL0, blameL1, blameL2]
  rfl

theorem ag25 : aggOf Try.prog 25 = some true := by kernel_rfl
theorem sz25 : szOf Try.prog 25 = some 4 := by kernel_rfl

attribute [go_sem] ag25 sz25

theorem c63 : Ctr Try.prog 63 [] (.tup [KB bkK, KB bkL]) := by
  refine ctr_of_wp hmix Try.func63 m63 rfl ?_
  unfold v63
  simp (config := { failIfUnchanged := false }) (disch := first | omega | (simp [wcs_len] <;> omega) | fail) only [go_sem, ↓reduceIte, reduceCtorEq, Nat.reduceEqDiff, Nat.reduceAdd, Nat.reduceMul, Nat.reduceSub, Nat.reduceLeDiff, Int.reduceEq, Int.reduceLT, Int.reduceLE, Int.reduceAdd, Int.reduceSub, Int.reduceMul, Int.reduceNeg, Int.reduceToNat]
  rfl

theorem c17 : Ctr Try.prog 17 [] (.bool true) := by
  refine ctr_of_wp hmix Try.func17 m17 rfl ?_
  unfold v17
  simp (config := { failIfUnchanged := false }) (disch := first | omega | (simp [wcs_len] <;> omega) | fail) only [go_sem, ↓reduceIte, reduceCtorEq, Nat.reduceEqDiff, Nat.reduceAdd, Nat.reduceMul, Nat.reduceSub, Nat.reduceLeDiff, Int.reduceEq, Int.reduceLT, Int.reduceLE, Int.reduceAdd, Int.reduceSub, Int.reduceMul, Int.reduceNeg, Int.reduceToNat]
  refine wcall c63 ?_
  simp (config := { failIfUnchanged := false }) (disch := first | omega | (simp [wcs_len] <;> omega) | fail) only [go_sem, ↓reduceIte, reduceCtorEq, Nat.reduceEqDiff, Nat.reduceAdd, Nat.reduceMul, Nat.reduceSub, Nat.reduceLeDiff, Int.reduceEq, Int.reduceLT, Int.reduceLE, Int.reduceAdd, Int.reduceSub, Int.reduceMul, Int.reduceNeg, Int.reduceToNat]
  refine wcall (c42t bkK smK 13) ?_
  rw [if_pos ckK, if_pos (by kernel_rfl), show tieN bkK.base.toNat bkK.places.toNat (13 : Int).toNat = [1, 3] by kernel_rfl]
  simp (config := { failIfUnchanged := false }) (disch := first | omega | (simp [wcs_len] <;> omega) | fail) only [go_sem, ↓reduceIte, reduceCtorEq, Nat.reduceEqDiff, Nat.reduceAdd, Nat.reduceMul, Nat.reduceSub, Nat.reduceLeDiff, Int.reduceEq, Int.reduceLT, Int.reduceLE, Int.reduceAdd, Int.reduceSub, Int.reduceMul, Int.reduceNeg, Int.reduceToNat]
  refine wcall (c34 bkK smK) ?_
  rw [if_pos ckK, manyK]
  simp (config := { failIfUnchanged := false }) (disch := first | omega | (simp [wcs_len] <;> omega) | fail) only [go_sem, ↓reduceIte, reduceCtorEq, Nat.reduceEqDiff, Nat.reduceAdd, Nat.reduceMul, Nat.reduceSub, Nat.reduceLeDiff, Int.reduceEq, Int.reduceLT, Int.reduceLE, Int.reduceAdd, Int.reduceSub, Int.reduceMul, Int.reduceNeg, Int.reduceToNat]
  refine wcall (c35 bkK smK 1) ?_
  unfold ansR
  rw [if_pos ckK, if_pos (by kernel_rfl), if_neg (by rw [manyK]; decide), show (1 : Int).toNat = 1 from rfl, sureK]
  simp (config := { failIfUnchanged := false }) (disch := first | omega | (simp [wcs_len] <;> omega) | fail) only [go_sem, ↓reduceIte, reduceCtorEq, Nat.reduceEqDiff, Nat.reduceAdd, Nat.reduceMul, Nat.reduceSub, Nat.reduceLeDiff, Int.reduceEq, Int.reduceLT, Int.reduceLE, Int.reduceAdd, Int.reduceSub, Int.reduceMul, Int.reduceNeg, Int.reduceToNat]
  refine wcall (c19 bkK smK) ?_
  rw [if_pos ckK, if_neg (by rw [manyK]; decide), show bkK.cords.length + 1 = 3 from rfl, askK.1, askK.2]
  simp (config := { failIfUnchanged := false }) (disch := first | omega | (simp [wcs_len] <;> omega) | fail) only [go_sem, ↓reduceIte, reduceCtorEq, Nat.reduceEqDiff, Nat.reduceAdd, Nat.reduceMul, Nat.reduceSub, Nat.reduceLeDiff, Int.reduceEq, Int.reduceLT, Int.reduceLE, Int.reduceAdd, Int.reduceSub, Int.reduceMul, Int.reduceNeg, Int.reduceToNat]
  refine wcall (c23 bkL smL) ?_
  rw [if_pos ckL, retieL]
  simp (config := { failIfUnchanged := false }) (disch := first | omega | (simp [wcs_len] <;> omega) | fail) only [go_sem, ↓reduceIte, reduceCtorEq, Nat.reduceEqDiff, Nat.reduceAdd, Nat.reduceMul, Nat.reduceSub, Nat.reduceLeDiff, Int.reduceEq, Int.reduceLT, Int.reduceLE, Int.reduceAdd, Int.reduceSub, Int.reduceMul, Int.reduceNeg, Int.reduceToNat]
  refine wcall (c25 bkL smL) ?_
  rw [if_pos ckL, show bkL.cords.length + 1 = 3 from rfl, blameLL, if_neg (by decide)]
  simp (config := { failIfUnchanged := false }) (disch := first | omega | (simp [wcs_len] <;> omega) | fail) only [go_sem, ↓reduceIte, reduceCtorEq, Nat.reduceEqDiff, Nat.reduceAdd, Nat.reduceMul, Nat.reduceSub, Nat.reduceLeDiff, Int.reduceEq, Int.reduceLT, Int.reduceLE, Int.reduceAdd, Int.reduceSub, Int.reduceMul, Int.reduceNeg, Int.reduceToNat]
  refine wcall (c27 [1, 3] [1, 3] (by simp)) ?_
  simp (config := { failIfUnchanged := false }) (disch := first | omega | (simp [wcs_len] <;> omega) | fail) only [go_sem, ↓reduceIte, reduceCtorEq, Nat.reduceEqDiff, Nat.reduceAdd, Nat.reduceMul, Nat.reduceSub, Nat.reduceLeDiff, Int.reduceEq, Int.reduceLT, Int.reduceLE, Int.reduceAdd, Int.reduceSub, Int.reduceMul, Int.reduceNeg, Int.reduceToNat]
  refine wcall (c27 [0, 1, 2] [0, 1, 2] (by simp)) ?_
  simp (config := { failIfUnchanged := false }) (disch := first | omega | (simp [wcs_len] <;> omega) | fail) only [go_sem, ↓reduceIte, reduceCtorEq, Nat.reduceEqDiff, Nat.reduceAdd, Nat.reduceMul, Nat.reduceSub, Nat.reduceLeDiff, Int.reduceEq, Int.reduceLT, Int.reduceLE, Int.reduceAdd, Int.reduceSub, Int.reduceMul, Int.reduceNeg, Int.reduceToNat]

end Go.Proofs.Ytkkiipjfbebipaa

/- The laws' own functions: Huge, Same, Copy. -/
set_option linter.unusedSimpArgs false
set_option linter.unusedVariables false
set_option linter.unnecessarySimpa false
namespace Go.Proofs.Ytkkiipjfbebipaa
open Go Go.V

def hugeB (b : Bk) : Bool := decide (40 < (b.cords.length : Int)) || (decide (40 < (b.top.length : Int)) || b.cords.any fun l => decide (40 < (l.length : Int)))

theorem c48 (b : Bk) (h1 : b.cords.length < 9223372036854775808) : Ctr Try.prog 48 [KB b] (.bool (hugeB b)) := by
  refine ctr_of_wp hmix Try.func48 m48 rfl ?_
  unfold v48 hugeB
  simp (config := { failIfUnchanged := false }) (disch := first | omega | (simp [wcs_len] <;> omega) | fail) only [go_sem, ↓reduceIte, reduceCtorEq, Nat.reduceEqDiff, Nat.reduceAdd, Nat.reduceMul, Nat.reduceSub, Nat.reduceLeDiff, Int.reduceEq, Int.reduceLT, Int.reduceLE, Int.reduceAdd, Int.reduceSub, Int.reduceMul, Int.reduceNeg, Int.reduceToNat]
  refine WGd_bool (fun h => ?_) (fun h => ?_)
  · simp (config := { failIfUnchanged := false }) (disch := first | omega | (simp [wcs_len] <;> omega) | fail) only [go_sem, ↓reduceIte, reduceCtorEq, Nat.reduceEqDiff, Nat.reduceAdd, Nat.reduceMul, Nat.reduceSub, Nat.reduceLeDiff, Int.reduceEq, Int.reduceLT, Int.reduceLE, Int.reduceAdd, Int.reduceSub, Int.reduceMul, Int.reduceNeg, Int.reduceToNat, h]
    refine wcond_dec (fun h2 => ?_) (fun h2 => ?_)
    · simp (config := { failIfUnchanged := false }) (disch := first | omega | (simp [wcs_len] <;> omega) | fail) only [go_sem, ↓reduceIte, reduceCtorEq, Nat.reduceEqDiff, Nat.reduceAdd, Nat.reduceMul, Nat.reduceSub, Nat.reduceLeDiff, Int.reduceEq, Int.reduceLT, Int.reduceLE, Int.reduceAdd, Int.reduceSub, Int.reduceMul, Int.reduceNeg, Int.reduceToNat, h2]
    · have h40 : ¬ 40 < (b.cords.length : Int) := by
        simpa using h
      simp (config := { failIfUnchanged := false }) (disch := first | omega | (simp [wcs_len] <;> omega) | fail) only [go_sem, ↓reduceIte, reduceCtorEq, Nat.reduceEqDiff, Nat.reduceAdd, Nat.reduceMul, Nat.reduceSub, Nat.reduceLeDiff, Int.reduceEq, Int.reduceLT, Int.reduceLE, Int.reduceAdd, Int.reduceSub, Int.reduceMul, Int.reduceNeg, Int.reduceToNat, h2]
      refine wp_loop' Nat (fun i => ⟨[(1, .ptr 1 0), (3, .int i)], [(1, ⟨[.int b.base, .int b.places, .sl 1 (b.cords.map SS) .sh, SS b.top], false⟩)], [], none⟩) (fun i => i ≤ b.cords.length ∧ ∀ x ∈ b.cords.take i, decide (40 < (x.length : Int)) = false) (fun i => b.cords.length - i) 0 (by simp) (by simp (config := { failIfUnchanged := false }) (disch := first | omega | (simp [wcs_len] <;> omega) | fail) only [go_sem, ↓reduceIte, reduceCtorEq, Nat.reduceEqDiff, Nat.reduceAdd, Nat.reduceMul, Nat.reduceSub, Nat.reduceLeDiff, Int.reduceEq, Int.reduceLT, Int.reduceLE, Int.reduceAdd, Int.reduceSub, Int.reduceMul, Int.reduceNeg, Int.reduceToNat]; rfl) ?_
      rintro i ⟨hi, hpre⟩
      simp (config := { failIfUnchanged := false }) (disch := first | omega | (simp [wcs_len] <;> omega) | fail) only [go_sem, ↓reduceIte, reduceCtorEq, Nat.reduceEqDiff, Nat.reduceAdd, Nat.reduceMul, Nat.reduceSub, Nat.reduceLeDiff, Int.reduceEq, Int.reduceLT, Int.reduceLE, Int.reduceAdd, Int.reduceSub, Int.reduceMul, Int.reduceNeg, Int.reduceToNat]
      refine wcond_dec (fun h3 => ?_) (fun h3 => ?_)
      · have hlt : i < b.cords.length := by omega
        simp (config := { failIfUnchanged := false }) (disch := first | omega | (simp [wcs_len] <;> omega) | fail) only [go_sem, ↓reduceIte, reduceCtorEq, Nat.reduceEqDiff, Nat.reduceAdd, Nat.reduceMul, Nat.reduceSub, Nat.reduceLeDiff, Int.reduceEq, Int.reduceLT, Int.reduceLE, Int.reduceAdd, Int.reduceSub, Int.reduceMul, Int.reduceNeg, Int.reduceToNat]
        refine wcond_dec (fun h4 => ?_) (fun h4 => ?_)
        · simp (config := { failIfUnchanged := false }) (disch := first | omega | (simp [wcs_len] <;> omega) | fail) only [go_sem, ↓reduceIte, reduceCtorEq, Nat.reduceEqDiff, Nat.reduceAdd, Nat.reduceMul, Nat.reduceSub, Nat.reduceLeDiff, Int.reduceEq, Int.reduceLT, Int.reduceLE, Int.reduceAdd, Int.reduceSub, Int.reduceMul, Int.reduceNeg, Int.reduceToNat]
          have : b.cords.any (fun l => decide (40 < (l.length : Int))) = true := List.any_eq_true.2 ⟨_, mem_getD hlt, by simpa using h4⟩
          simp [this]
        · simp (config := { failIfUnchanged := false }) (disch := first | omega | (simp [wcs_len] <;> omega) | fail) only [go_sem, ↓reduceIte, reduceCtorEq, Nat.reduceEqDiff, Nat.reduceAdd, Nat.reduceMul, Nat.reduceSub, Nat.reduceLeDiff, Int.reduceEq, Int.reduceLT, Int.reduceLE, Int.reduceAdd, Int.reduceSub, Int.reduceMul, Int.reduceNeg, Int.reduceToNat]
          refine ⟨i + 1, ⟨by omega, take_succ_all hlt hpre (by simpa using h4)⟩, by dsimp only; omega, ?_⟩
          simp (config := { failIfUnchanged := false }) (disch := first | omega | (simp [wcs_len] <;> omega) | fail) only [go_sem, ↓reduceIte, reduceCtorEq, Nat.reduceEqDiff, Nat.reduceAdd, Nat.reduceMul, Nat.reduceSub, Nat.reduceLeDiff, Int.reduceEq, Int.reduceLT, Int.reduceLE, Int.reduceAdd, Int.reduceSub, Int.reduceMul, Int.reduceNeg, Int.reduceToNat]
          simp
      · simp (config := { failIfUnchanged := false }) (disch := first | omega | (simp [wcs_len] <;> omega) | fail) only [go_sem, ↓reduceIte, reduceCtorEq, Nat.reduceEqDiff, Nat.reduceAdd, Nat.reduceMul, Nat.reduceSub, Nat.reduceLeDiff, Int.reduceEq, Int.reduceLT, Int.reduceLE, Int.reduceAdd, Int.reduceSub, Int.reduceMul, Int.reduceNeg, Int.reduceToNat]
        have e : i = b.cords.length := by omega
        have : b.cords.any (fun l => decide (40 < (l.length : Int))) = false := by
          rw [List.any_eq_false]
          intro x hx
          have := hpre x (by rw [e, List.take_length]; exact hx)
          simpa using this
        rw [this]
  · simp (config := { failIfUnchanged := false }) (disch := first | omega | (simp [wcs_len] <;> omega) | fail) only [go_sem, ↓reduceIte, reduceCtorEq, Nat.reduceEqDiff, Nat.reduceAdd, Nat.reduceMul, Nat.reduceSub, Nat.reduceLeDiff, Int.reduceEq, Int.reduceLT, Int.reduceLE, Int.reduceAdd, Int.reduceSub, Int.reduceMul, Int.reduceNeg, Int.reduceToNat, h]

/-- A book that is not huge. -/
theorem small_of_huge {b : Bk} (h : hugeB b = false) : b.cords.length ≤ 40 ∧ b.top.length ≤ 40 ∧ ∀ l ∈ b.cords, l.length ≤ 40 := by
  simp only [hugeB, Bool.or_eq_false_iff, decide_eq_false_iff_not, List.any_eq_false, decide_eq_true_eq] at h
  obtain ⟨h1, h2, h3⟩ := h
  exact ⟨by omega, by omega, fun l hl => by have := h3 l hl; omega⟩

theorem small_small {b : Bk} (h : hugeB b = false) : Small b := by
  obtain ⟨h1, h2, h3⟩ := small_of_huge h
  exact ⟨by omega, by omega, fun l hl => by have := h3 l hl; omega⟩

theorem c70 (a b : List Sp) (ha : a.length < 4294967296) : Ctr Try.prog 70 [SS a, SS b] (.bool (decide (a = b))) := by
  refine ctr_of_wp hmix Try.func70 m70 rfl ?_
  unfold v70
  simp (config := { failIfUnchanged := false }) (disch := first | omega | (simp [wcs_len] <;> omega) | fail) only [go_sem, ↓reduceIte, reduceCtorEq, Nat.reduceEqDiff, Nat.reduceAdd, Nat.reduceMul, Nat.reduceSub, Nat.reduceLeDiff, Int.reduceEq, Int.reduceLT, Int.reduceLE, Int.reduceAdd, Int.reduceSub, Int.reduceMul, Int.reduceNeg, Int.reduceToNat]
  refine wcond_dec (fun h => ?_) (fun h => ?_)
  · simp (config := { failIfUnchanged := false }) (disch := first | omega | (simp [wcs_len] <;> omega) | fail) only [go_sem, ↓reduceIte, reduceCtorEq, Nat.reduceEqDiff, Nat.reduceAdd, Nat.reduceMul, Nat.reduceSub, Nat.reduceLeDiff, Int.reduceEq, Int.reduceLT, Int.reduceLE, Int.reduceAdd, Int.reduceSub, Int.reduceMul, Int.reduceNeg, Int.reduceToNat]
    have : a ≠ b := fun e => by subst e; simp at h
    simp [this]
  · simp (config := { failIfUnchanged := false }) (disch := first | omega | (simp [wcs_len] <;> omega) | fail) only [go_sem, ↓reduceIte, reduceCtorEq, Nat.reduceEqDiff, Nat.reduceAdd, Nat.reduceMul, Nat.reduceSub, Nat.reduceLeDiff, Int.reduceEq, Int.reduceLT, Int.reduceLE, Int.reduceAdd, Int.reduceSub, Int.reduceMul, Int.reduceNeg, Int.reduceToNat]
    refine wp_loop' Nat (fun i => ⟨[(0, SS a), (1, SS b), (5, .int i)], [], [], none⟩) (fun i => i ≤ a.length ∧ a.take i = b.take i) (fun i => a.length - i) 0 (by simp) (by simp (config := { failIfUnchanged := false }) (disch := first | omega | (simp [wcs_len] <;> omega) | fail) only [go_sem, ↓reduceIte, reduceCtorEq, Nat.reduceEqDiff, Nat.reduceAdd, Nat.reduceMul, Nat.reduceSub, Nat.reduceLeDiff, Int.reduceEq, Int.reduceLT, Int.reduceLE, Int.reduceAdd, Int.reduceSub, Int.reduceMul, Int.reduceNeg, Int.reduceToNat]; rfl) ?_
    rintro i ⟨hi, hpre⟩
    simp (config := { failIfUnchanged := false }) (disch := first | omega | (simp [wcs_len] <;> omega) | fail) only [go_sem, ↓reduceIte, reduceCtorEq, Nat.reduceEqDiff, Nat.reduceAdd, Nat.reduceMul, Nat.reduceSub, Nat.reduceLeDiff, Int.reduceEq, Int.reduceLT, Int.reduceLE, Int.reduceAdd, Int.reduceSub, Int.reduceMul, Int.reduceNeg, Int.reduceToNat]
    have hl : a.length = b.length := by omega
    refine wcond_dec (fun h => ?_) (fun h => ?_)
    · have hlt : i < a.length := by omega
      have hlt2 : i < b.length := by omega
      obtain ⟨x, hx⟩ : ∃ x, a[i]?.getD default = x := ⟨_, rfl⟩
      obtain ⟨y, hy⟩ : ∃ y, b[i]?.getD default = y := ⟨_, rfl⟩
      have e1 : a[i]? = some x := by rw [← hx, List.getElem?_eq_getElem hlt]; rfl
      have e2 : b[i]? = some y := by rw [← hy, List.getElem?_eq_getElem hlt2]; rfl
      simp (config := { failIfUnchanged := false }) (disch := first | omega | (simp [wcs_len] <;> omega) | fail) only [go_sem, ↓reduceIte, reduceCtorEq, Nat.reduceEqDiff, Nat.reduceAdd, Nat.reduceMul, Nat.reduceSub, Nat.reduceLeDiff, Int.reduceEq, Int.reduceLT, Int.reduceLE, Int.reduceAdd, Int.reduceSub, Int.reduceMul, Int.reduceNeg, Int.reduceToNat, hx, hy]
      refine wcond_bool (fun h => ?_) (fun h => ?_)
      · simp (config := { failIfUnchanged := false }) (disch := first | omega | (simp [wcs_len] <;> omega) | fail) only [go_sem, ↓reduceIte, reduceCtorEq, Nat.reduceEqDiff, Nat.reduceAdd, Nat.reduceMul, Nat.reduceSub, Nat.reduceLeDiff, Int.reduceEq, Int.reduceLT, Int.reduceLE, Int.reduceAdd, Int.reduceSub, Int.reduceMul, Int.reduceNeg, Int.reduceToNat]
        have : a ≠ b := fun e => by
          subst e
          rw [e1] at e2
          injection e2 with e2
          subst e2
          simp [sameCells] at h
        simp [this]
      · simp (config := { failIfUnchanged := false }) (disch := first | omega | (simp [wcs_len] <;> omega) | fail) only [go_sem, ↓reduceIte, reduceCtorEq, Nat.reduceEqDiff, Nat.reduceAdd, Nat.reduceMul, Nat.reduceSub, Nat.reduceLeDiff, Int.reduceEq, Int.reduceLT, Int.reduceLE, Int.reduceAdd, Int.reduceSub, Int.reduceMul, Int.reduceNeg, Int.reduceToNat]
        refine ⟨i + 1, ⟨by omega, ?_⟩, by dsimp only; omega, ?_⟩
        · have hxy : x = y := by
            obtain ⟨x1, x2⟩ := x
            obtain ⟨y1, y2⟩ := y
            simp [sameCells] at h
            rw [h.1, h.2]
          rw [List.take_add_one, List.take_add_one, hpre, e1, e2, hxy]
        · simp (config := { failIfUnchanged := false }) (disch := first | omega | (simp [wcs_len] <;> omega) | fail) only [go_sem, ↓reduceIte, reduceCtorEq, Nat.reduceEqDiff, Nat.reduceAdd, Nat.reduceMul, Nat.reduceSub, Nat.reduceLeDiff, Int.reduceEq, Int.reduceLT, Int.reduceLE, Int.reduceAdd, Int.reduceSub, Int.reduceMul, Int.reduceNeg, Int.reduceToNat]
          simp
    · simp (config := { failIfUnchanged := false }) (disch := first | omega | (simp [wcs_len] <;> omega) | fail) only [go_sem, ↓reduceIte, reduceCtorEq, Nat.reduceEqDiff, Nat.reduceAdd, Nat.reduceMul, Nat.reduceSub, Nat.reduceLeDiff, Int.reduceEq, Int.reduceLT, Int.reduceLE, Int.reduceAdd, Int.reduceSub, Int.reduceMul, Int.reduceNeg, Int.reduceToNat]
      have e : i = a.length := by omega
      have : a = b := by
        rw [e, List.take_length, hl, List.take_length] at hpre
        exact hpre
      simp [this]

theorem c21 (a b : Bk) (hs : Small a) : Ctr Try.prog 21 [KB a, KB b] (.bool (decide (a = b))) := by
  refine ctr_of_wp hmix Try.func21 m21 rfl ?_
  unfold v21
  have hsc := hs.cords
  simp (config := { failIfUnchanged := false }) (disch := first | omega | (simp [wcs_len] <;> omega) | fail) only [go_sem, ↓reduceIte, reduceCtorEq, Nat.reduceEqDiff, Nat.reduceAdd, Nat.reduceMul, Nat.reduceSub, Nat.reduceLeDiff, Int.reduceEq, Int.reduceLT, Int.reduceLE, Int.reduceAdd, Int.reduceSub, Int.reduceMul, Int.reduceNeg, Int.reduceToNat]
  refine WGd_bool (fun h1 => ?_) (fun h1 => ?_)
  · simp (config := { failIfUnchanged := false }) (disch := first | omega | (simp [wcs_len] <;> omega) | fail) only [go_sem, ↓reduceIte, reduceCtorEq, Nat.reduceEqDiff, Nat.reduceAdd, Nat.reduceMul, Nat.reduceSub, Nat.reduceLeDiff, Int.reduceEq, Int.reduceLT, Int.reduceLE, Int.reduceAdd, Int.reduceSub, Int.reduceMul, Int.reduceNeg, Int.reduceToNat, h1]
    refine WGd_bool (fun h2 => ?_) (fun h2 => ?_)
    · simp (config := { failIfUnchanged := false }) (disch := first | omega | (simp [wcs_len] <;> omega) | fail) only [go_sem, ↓reduceIte, reduceCtorEq, Nat.reduceEqDiff, Nat.reduceAdd, Nat.reduceMul, Nat.reduceSub, Nat.reduceLeDiff, Int.reduceEq, Int.reduceLT, Int.reduceLE, Int.reduceAdd, Int.reduceSub, Int.reduceMul, Int.reduceNeg, Int.reduceToNat, h1, h2]
      refine WGd_bool (fun h3 => ?_) (fun h3 => ?_)
      · simp (config := { failIfUnchanged := false }) (disch := first | omega | (simp [wcs_len] <;> omega) | fail) only [go_sem, ↓reduceIte, reduceCtorEq, Nat.reduceEqDiff, Nat.reduceAdd, Nat.reduceMul, Nat.reduceSub, Nat.reduceLeDiff, Int.reduceEq, Int.reduceLT, Int.reduceLE, Int.reduceAdd, Int.reduceSub, Int.reduceMul, Int.reduceNeg, Int.reduceToNat, h1, h2, h3]
        refine wcall (c70 _ _ hs.top) ?_
        simp (config := { failIfUnchanged := false }) (disch := first | omega | (simp [wcs_len] <;> omega) | fail) only [go_sem, ↓reduceIte, reduceCtorEq, Nat.reduceEqDiff, Nat.reduceAdd, Nat.reduceMul, Nat.reduceSub, Nat.reduceLeDiff, Int.reduceEq, Int.reduceLT, Int.reduceLE, Int.reduceAdd, Int.reduceSub, Int.reduceMul, Int.reduceNeg, Int.reduceToNat, h1, h2, h3]
        refine wcond_dec (fun h4 => ?_) (fun h4 => ?_)
        · simp (config := { failIfUnchanged := false }) (disch := first | omega | (simp [wcs_len] <;> omega) | fail) only [go_sem, ↓reduceIte, reduceCtorEq, Nat.reduceEqDiff, Nat.reduceAdd, Nat.reduceMul, Nat.reduceSub, Nat.reduceLeDiff, Int.reduceEq, Int.reduceLT, Int.reduceLE, Int.reduceAdd, Int.reduceSub, Int.reduceMul, Int.reduceNeg, Int.reduceToNat]
          have : a ≠ b := fun e => by subst e; simp at h4
          simp [this]
        · simp (config := { failIfUnchanged := false }) (disch := first | omega | (simp [wcs_len] <;> omega) | fail) only [go_sem, ↓reduceIte, reduceCtorEq, Nat.reduceEqDiff, Nat.reduceAdd, Nat.reduceMul, Nat.reduceSub, Nat.reduceLeDiff, Int.reduceEq, Int.reduceLT, Int.reduceLE, Int.reduceAdd, Int.reduceSub, Int.reduceMul, Int.reduceNeg, Int.reduceToNat]
          have hb : a.base = b.base := by simpa using h1
          have hp : a.places = b.places := by simpa using h2
          have hl : a.cords.length = b.cords.length := by have : (a.cords.length : Int) = b.cords.length := by simpa using h3
                                                          omega
          have ht : a.top = b.top := by simpa using h4
          refine wp_loop' Nat (fun i => ⟨[(2, .ptr 2 0), (3, .ptr 3 0), (5, .int i)], [(3, ⟨[.int b.base, .int b.places, .sl 1 (b.cords.map SS) .sh, SS b.top], false⟩), (2, ⟨[.int a.base, .int a.places, .sl 1 (a.cords.map SS) .sh, SS a.top], false⟩)], [], none⟩) (fun i => i ≤ a.cords.length ∧ a.cords.take i = b.cords.take i) (fun i => a.cords.length - i) 0 (by simp) (by simp (config := { failIfUnchanged := false }) (disch := first | omega | (simp [wcs_len] <;> omega) | fail) only [go_sem, ↓reduceIte, reduceCtorEq, Nat.reduceEqDiff, Nat.reduceAdd, Nat.reduceMul, Nat.reduceSub, Nat.reduceLeDiff, Int.reduceEq, Int.reduceLT, Int.reduceLE, Int.reduceAdd, Int.reduceSub, Int.reduceMul, Int.reduceNeg, Int.reduceToNat]; simp) ?_
          rintro i ⟨hi, hpre⟩
          simp (config := { failIfUnchanged := false }) (disch := first | omega | (simp [wcs_len] <;> omega) | fail) only [go_sem, ↓reduceIte, reduceCtorEq, Nat.reduceEqDiff, Nat.reduceAdd, Nat.reduceMul, Nat.reduceSub, Nat.reduceLeDiff, Int.reduceEq, Int.reduceLT, Int.reduceLE, Int.reduceAdd, Int.reduceSub, Int.reduceMul, Int.reduceNeg, Int.reduceToNat]
          refine wcond_dec (fun h => ?_) (fun h => ?_)
          · have hlt : i < a.cords.length := by omega
            have hlt2 : i < b.cords.length := by omega
            simp (config := { failIfUnchanged := false }) (disch := first | omega | (simp [wcs_len] <;> omega) | fail) only [go_sem, ↓reduceIte, reduceCtorEq, Nat.reduceEqDiff, Nat.reduceAdd, Nat.reduceMul, Nat.reduceSub, Nat.reduceLeDiff, Int.reduceEq, Int.reduceLT, Int.reduceLE, Int.reduceAdd, Int.reduceSub, Int.reduceMul, Int.reduceNeg, Int.reduceToNat]
            refine wcall (c70 _ _ (hs.each _ (mem_getD hlt))) ?_
            simp (config := { failIfUnchanged := false }) (disch := first | omega | (simp [wcs_len] <;> omega) | fail) only [go_sem, ↓reduceIte, reduceCtorEq, Nat.reduceEqDiff, Nat.reduceAdd, Nat.reduceMul, Nat.reduceSub, Nat.reduceLeDiff, Int.reduceEq, Int.reduceLT, Int.reduceLE, Int.reduceAdd, Int.reduceSub, Int.reduceMul, Int.reduceNeg, Int.reduceToNat]
            refine wcond_dec (fun h5 => ?_) (fun h5 => ?_)
            · simp (config := { failIfUnchanged := false }) (disch := first | omega | (simp [wcs_len] <;> omega) | fail) only [go_sem, ↓reduceIte, reduceCtorEq, Nat.reduceEqDiff, Nat.reduceAdd, Nat.reduceMul, Nat.reduceSub, Nat.reduceLeDiff, Int.reduceEq, Int.reduceLT, Int.reduceLE, Int.reduceAdd, Int.reduceSub, Int.reduceMul, Int.reduceNeg, Int.reduceToNat]
              have : a ≠ b := fun e => by subst e; simp at h5
              simp [this]
            · simp (config := { failIfUnchanged := false }) (disch := first | omega | (simp [wcs_len] <;> omega) | fail) only [go_sem, ↓reduceIte, reduceCtorEq, Nat.reduceEqDiff, Nat.reduceAdd, Nat.reduceMul, Nat.reduceSub, Nat.reduceLeDiff, Int.reduceEq, Int.reduceLT, Int.reduceLE, Int.reduceAdd, Int.reduceSub, Int.reduceMul, Int.reduceNeg, Int.reduceToNat]
              refine ⟨i + 1, ⟨by omega, ?_⟩, by dsimp only; omega, ?_⟩
              · simp only [Decidable.not_not] at h5
                rw [List.take_add_one, List.take_add_one, hpre]
                rw [List.getElem?_eq_getElem hlt, List.getElem?_eq_getElem hlt2] at h5 ⊢
                simp only [Option.getD_some] at h5
                rw [h5]
              · simp (config := { failIfUnchanged := false }) (disch := first | omega | (simp [wcs_len] <;> omega) | fail) only [go_sem, ↓reduceIte, reduceCtorEq, Nat.reduceEqDiff, Nat.reduceAdd, Nat.reduceMul, Nat.reduceSub, Nat.reduceLeDiff, Int.reduceEq, Int.reduceLT, Int.reduceLE, Int.reduceAdd, Int.reduceSub, Int.reduceMul, Int.reduceNeg, Int.reduceToNat]
                simp
          · simp (config := { failIfUnchanged := false }) (disch := first | omega | (simp [wcs_len] <;> omega) | fail) only [go_sem, ↓reduceIte, reduceCtorEq, Nat.reduceEqDiff, Nat.reduceAdd, Nat.reduceMul, Nat.reduceSub, Nat.reduceLeDiff, Int.reduceEq, Int.reduceLT, Int.reduceLE, Int.reduceAdd, Int.reduceSub, Int.reduceMul, Int.reduceNeg, Int.reduceToNat]
            have e : i = a.cords.length := by omega
            have : a = b := by
              rw [e, List.take_length, hl, List.take_length] at hpre
              obtain ⟨x1, x2, x3, x4⟩ := a
              obtain ⟨y1, y2, y3, y4⟩ := b
              simp_all
            simp [this]
      · simp (config := { failIfUnchanged := false }) (disch := first | omega | (simp [wcs_len] <;> omega) | fail) only [go_sem, ↓reduceIte, reduceCtorEq, Nat.reduceEqDiff, Nat.reduceAdd, Nat.reduceMul, Nat.reduceSub, Nat.reduceLeDiff, Int.reduceEq, Int.reduceLT, Int.reduceLE, Int.reduceAdd, Int.reduceSub, Int.reduceMul, Int.reduceNeg, Int.reduceToNat, h1, h2, h3]
        have : a ≠ b := fun e => by subst e; simp at h3
        simp [this]
    · simp (config := { failIfUnchanged := false }) (disch := first | omega | (simp [wcs_len] <;> omega) | fail) only [go_sem, ↓reduceIte, reduceCtorEq, Nat.reduceEqDiff, Nat.reduceAdd, Nat.reduceMul, Nat.reduceSub, Nat.reduceLeDiff, Int.reduceEq, Int.reduceLT, Int.reduceLE, Int.reduceAdd, Int.reduceSub, Int.reduceMul, Int.reduceNeg, Int.reduceToNat, h1, h2]
      have : a ≠ b := fun e => by subst e; simp at h2
      simp [this]
  · simp (config := { failIfUnchanged := false }) (disch := first | omega | (simp [wcs_len] <;> omega) | fail) only [go_sem, ↓reduceIte, reduceCtorEq, Nat.reduceEqDiff, Nat.reduceAdd, Nat.reduceMul, Nat.reduceSub, Nat.reduceLeDiff, Int.reduceEq, Int.reduceLT, Int.reduceLE, Int.reduceAdd, Int.reduceSub, Int.reduceMul, Int.reduceNeg, Int.reduceToNat, h1]
    have : a ≠ b := fun e => by subst e; simp at h1
    simp [this]

theorem ag25' : aggOf Try.prog 25 = some true := by kernel_rfl
theorem sz25' : szOf Try.prog 25 = some 4 := by kernel_rfl

attribute [go_sem] ag25' sz25'

theorem c18 (b : Bk) (h1 : b.cords.length ≤ 1000000) (h2 : b.top.length ≤ 1000000) (h3 : ∀ l ∈ b.cords, l.length ≤ 1000000) : Ctr Try.prog 18 [KB b] (KB b) := by
  refine ctr_of_wp hmix Try.func18 m18 rfl ?_
  unfold v18
  simp (config := { failIfUnchanged := false }) (disch := first | omega | (simp [wcs_len] <;> omega) | fail) only [go_sem, ↓reduceIte, reduceCtorEq, Nat.reduceEqDiff, Nat.reduceAdd, Nat.reduceMul, Nat.reduceSub, Nat.reduceLeDiff, Int.reduceEq, Int.reduceLT, Int.reduceLE, Int.reduceAdd, Int.reduceSub, Int.reduceMul, Int.reduceNeg, Int.reduceToNat]
  refine wp_loop' (Nat × AV × List (Nat × Nat)) (fun x => ⟨[(1, .ptr 1 0), (2, .ptr 2 0), (3, .ptr 3 0), (4, .int x.1)],
    [(3, ⟨[.int b.base, .int b.places, x.2.1, SS b.top], false⟩), (2, ⟨[.int 0, .int 0, .sl 1 [] .full, .sl 2 [] .full], false⟩), (1, ⟨[.int b.base, .int b.places, .sl 1 (b.cords.map SS) .sh, SS b.top], false⟩)], x.2.2, none⟩)
    (fun x => x.1 ≤ b.cords.length ∧ ((x.1 = 0 ∧ x.2.1 = .sl 1 [] .full ∧ x.2.2 = []) ∨ (0 < x.1 ∧ x.2.1 = .sl 1 ((b.cords.take x.1).map SS) (.own 31) ∧ x.2.2 = [(31, x.1)]))) (fun x => b.cords.length - x.1) (0, .sl 1 [] .full, []) (by simp) (by simp (config := { failIfUnchanged := false }) (disch := first | omega | (simp [wcs_len] <;> omega) | fail) only [go_sem, ↓reduceIte, reduceCtorEq, Nat.reduceEqDiff, Nat.reduceAdd, Nat.reduceMul, Nat.reduceSub, Nat.reduceLeDiff, Int.reduceEq, Int.reduceLT, Int.reduceLE, Int.reduceAdd, Int.reduceSub, Int.reduceMul, Int.reduceNeg, Int.reduceToNat]; simp) ?_
  rintro ⟨i, sl, tk⟩ ⟨hi, hst⟩
  dsimp only at hi hst ⊢
  have hout : ∀ (m : VM), i = b.cords.length → AV.sl 1 ((b.cords.take i).map SS) .sh = .sl 1 (b.cords.map SS) .sh := by
    intro _ e
    rw [e, List.take_length]
  have htk : i < b.cords.length → (b.cords.take (i + 1)).map SS = (b.cords.take i).map SS ++ [SS (b.cords[i]?.getD default)] := by
    intro h
    rw [List.take_add_one, List.getElem?_eq_getElem h, List.map_append]
    rfl
  rcases hst with ⟨h0, rfl, rfl⟩ | ⟨h0, rfl, rfl⟩
  · subst h0
    simp (config := { failIfUnchanged := false }) (disch := first | omega | (simp [wcs_len] <;> omega) | fail) only [go_sem, ↓reduceIte, reduceCtorEq, Nat.reduceEqDiff, Nat.reduceAdd, Nat.reduceMul, Nat.reduceSub, Nat.reduceLeDiff, Int.reduceEq, Int.reduceLT, Int.reduceLE, Int.reduceAdd, Int.reduceSub, Int.reduceMul, Int.reduceNeg, Int.reduceToNat]
    refine wcond_dec (fun h => ?_) (fun h => ?_)
    · have hlt : 0 < b.cords.length := by omega
      have h3' := h3 _ (mem_getD hlt)
      simp (config := { failIfUnchanged := false }) (disch := first | omega | (simp [wcs_len] <;> omega) | fail) only [go_sem, ↓reduceIte, reduceCtorEq, Nat.reduceEqDiff, Nat.reduceAdd, Nat.reduceMul, Nat.reduceSub, Nat.reduceLeDiff, Int.reduceEq, Int.reduceLT, Int.reduceLE, Int.reduceAdd, Int.reduceSub, Int.reduceMul, Int.reduceNeg, Int.reduceToNat]
      refine ⟨(1, .sl 1 ((b.cords.take 1).map SS) (.own 31), [(31, 1)]), ⟨by dsimp only; omega, .inr ⟨by simp, rfl, rfl⟩⟩, by dsimp only; omega, ?_⟩
      have := htk hlt
      simp only [List.take_zero, List.map_nil, List.nil_append, Nat.zero_add] at this
      rw [this]
      simp (config := { failIfUnchanged := false }) (disch := first | omega | (simp [wcs_len] <;> omega) | fail) only [go_sem, ↓reduceIte, reduceCtorEq, Nat.reduceEqDiff, Nat.reduceAdd, Nat.reduceMul, Nat.reduceSub, Nat.reduceLeDiff, Int.reduceEq, Int.reduceLT, Int.reduceLE, Int.reduceAdd, Int.reduceSub, Int.reduceMul, Int.reduceNeg, Int.reduceToNat]
      simp
    · simp (config := { failIfUnchanged := false }) (disch := first | omega | (simp [wcs_len] <;> omega) | fail) only [go_sem, ↓reduceIte, reduceCtorEq, Nat.reduceEqDiff, Nat.reduceAdd, Nat.reduceMul, Nat.reduceSub, Nat.reduceLeDiff, Int.reduceEq, Int.reduceLT, Int.reduceLE, Int.reduceAdd, Int.reduceSub, Int.reduceMul, Int.reduceNeg, Int.reduceToNat]
      have e : b.cords.length = 0 := by omega
      have e2 : b.cords = [] := List.eq_nil_of_length_eq_zero e
      simp [e2]
  · simp (config := { failIfUnchanged := false }) (disch := first | omega | (simp [wcs_len] <;> omega) | fail) only [go_sem, ↓reduceIte, reduceCtorEq, Nat.reduceEqDiff, Nat.reduceAdd, Nat.reduceMul, Nat.reduceSub, Nat.reduceLeDiff, Int.reduceEq, Int.reduceLT, Int.reduceLE, Int.reduceAdd, Int.reduceSub, Int.reduceMul, Int.reduceNeg, Int.reduceToNat]
    refine wcond_dec (fun h => ?_) (fun h => ?_)
    · have hlt : i < b.cords.length := by omega
      have h3' := h3 _ (mem_getD hlt)
      have hmin : min i b.cords.length = i := by omega
      simp (config := { failIfUnchanged := false }) (disch := first | omega | (simp [wcs_len] <;> omega) | fail) only [go_sem, ↓reduceIte, reduceCtorEq, Nat.reduceEqDiff, Nat.reduceAdd, Nat.reduceMul, Nat.reduceSub, Nat.reduceLeDiff, Int.reduceEq, Int.reduceLT, Int.reduceLE, Int.reduceAdd, Int.reduceSub, Int.reduceMul, Int.reduceNeg, Int.reduceToNat]
      refine ⟨by rw [List.length_take, hmin], ?_⟩
      rw [List.length_take, hmin]
      refine ⟨(i + 1, .sl 1 ((b.cords.take (i + 1)).map SS) (.own 31), [(31, i + 1)]), ⟨by dsimp only; omega, .inr ⟨by simp, rfl, rfl⟩⟩, by dsimp only; omega, ?_⟩
      rw [htk hlt]
      simp (config := { failIfUnchanged := false }) (disch := first | omega | (simp [wcs_len] <;> omega) | fail) only [go_sem, ↓reduceIte, reduceCtorEq, Nat.reduceEqDiff, Nat.reduceAdd, Nat.reduceMul, Nat.reduceSub, Nat.reduceLeDiff, Int.reduceEq, Int.reduceLT, Int.reduceLE, Int.reduceAdd, Int.reduceSub, Int.reduceMul, Int.reduceNeg, Int.reduceToNat]
      simp
    · simp (config := { failIfUnchanged := false }) (disch := first | omega | (simp [wcs_len] <;> omega) | fail) only [go_sem, ↓reduceIte, reduceCtorEq, Nat.reduceEqDiff, Nat.reduceAdd, Nat.reduceMul, Nat.reduceSub, Nat.reduceLeDiff, Int.reduceEq, Int.reduceLT, Int.reduceLE, Int.reduceAdd, Int.reduceSub, Int.reduceMul, Int.reduceNeg, Int.reduceToNat]
      have e : i = b.cords.length := by omega
      rw [e, List.take_length]

end Go.Proofs.Ytkkiipjfbebipaa

/- Small laws that several of the texts behind use. -/
set_option linter.unusedSimpArgs false
set_option linter.unusedVariables false
set_option linter.unnecessarySimpa false
namespace Go.Proofs.Ytkkiipjfbebipaa
open Go Go.V

theorem allOK_iff (b : Bk) (may : Nat → Nat → Nat → Bool) (carry : Nat → Nat → Bool) (l : List Nat) : allOK b may carry l = true ↔ ∀ p, p < b.places.toNat → (∀ c, c < b.cords.length + 1 → may c p (dgN b l c p) = true) ∧ carry p (carN b l p) = true := by
  unfold allOK
  simp only [List.all_eq_true, List.mem_range, Bool.and_eq_true]

theorem allOK_only {b : Bk} {may : Nat → Nat → Nat → Bool} {carry : Nat → Nat → Bool} {c p d : Nat} (hc : c ≤ b.cords.length) (hp : p < b.places.toNat) (l : List Nat) :
    allOK b (onlyF may c p d) carry l = (allOK b may carry l && decide (dgN b l c p = d)) := by
  rw [Bool.eq_iff_iff, Bool.and_eq_true, allOK_iff, allOK_iff, decide_eq_true_eq]
  constructor
  · intro h
    refine ⟨fun q hq => ⟨fun e he => ?_, (h q hq).2⟩, ?_⟩
    · have := (h q hq).1 e he
      simp only [onlyF, Bool.and_eq_true] at this
      exact this.1
    · have := (h p hp).1 c (by omega)
      simp only [onlyF, Bool.and_eq_true, Bool.or_eq_true, decide_eq_true_eq] at this
      rcases this.2 with h | h | h
      · exact absurd trivial h
      · exact absurd trivial h
      · exact h
  · rintro ⟨h, h2⟩ q hq
    refine ⟨fun e he => ?_, (h q hq).2⟩
    simp only [onlyF, Bool.and_eq_true, (h q hq).1 e he, true_and, Bool.or_eq_true, decide_eq_true_eq]
    by_cases e1 : e = c
    · by_cases e2 : q = p
      · subst e1 e2; exact .inr (.inr h2)
      · exact .inr (.inl e2)
    · exact .inl e1

theorem allOK_yes (b : Bk) (l : List Nat) : allOK b yes3 yes2 l = true := by
  rw [allOK_iff]
  exact fun _ _ => ⟨fun _ _ => rfl, rfl⟩

theorem take_snoc {α : Type} [Inhabited α] {l : List α} {k : Nat} (h : k < l.length) : l.take (k + 1) = l.take k ++ [l[k]?.getD default] := by
  rw [List.take_add_one, List.getElem?_eq_getElem h]
  rfl

end Go.Proofs.Ytkkiipjfbebipaa

/- A row's arguments: a book, a list of integers, a record of integers. -/
set_option linter.unusedSimpArgs false
set_option linter.unusedVariables false
set_option linter.unnecessarySimpa false
namespace Go.Proofs.Ytkkiipjfbebipaa
open Go Go.V

theorem map_choose {α β γ : Type} {F : α → γ} {G : β → γ} {Q : β → Prop} : ∀ (es : List α), (∀ x ∈ es, ∃ s, F x = G s ∧ Q s) → ∃ l : List β, es.map F = l.map G ∧ l.length = es.length ∧ ∀ s ∈ l, Q s
  | [], _ => ⟨[], rfl, rfl, by simp⟩
  | x :: r, h => by
    obtain ⟨s, h1, h2⟩ := h x (by simp)
    obtain ⟨l, h3, h4, h5⟩ := map_choose r fun y hy => h y (by simp [hy])
    refine ⟨s :: l, by simp [h1, h3], by simp [h4], ?_⟩
    intro t ht
    rcases List.mem_cons.1 ht with rfl | ht
    · exact h2
    · exact h5 t ht

theorem ty_sp {cs : List AV} (h : Ty (.st [.int, .int]) cs) : ∃ s : Sp, cs = [.int s.lo, .int s.hi] := by
  simp only [Ty, TyL] at h
  obtain ⟨a, b, rfl, ⟨n, _, rfl⟩, c, d, rfl, ⟨m, _, rfl⟩, rfl⟩ := h
  exact ⟨⟨n, m⟩, rfl⟩

theorem ty_ss {cs : List AV} (h : Ty (.sl (.st [.int, .int])) cs) : ∃ l : List Sp, cs = [SS l] ∧ l.length < 9223372036854775808 := by
  rw [Ty] at h
  obtain ⟨es, rfl, h1, h2⟩ := h
  obtain ⟨l, h3, h4, _⟩ := map_choose (F := fun x => if TC.isSt (.st [.int, .int]) then AV.agg x else x[0]?.getD .und) (G := SP) (Q := fun _ => True) es (fun x hx => by
    obtain ⟨s, rfl⟩ := ty_sp (h2 x hx)
    exact ⟨s, rfl, trivial⟩)
  refine ⟨l, ?_, by omega⟩
  rw [h3]
  rfl

theorem ty_is {cs : List AV} (h : Ty (.sl .int) cs) : ∃ l : List Int, cs = [IS l] ∧ l.length < 9223372036854775808 := by
  rw [Ty] at h
  obtain ⟨es, rfl, h1, h2⟩ := h
  obtain ⟨l, h3, h4, _⟩ := map_choose (F := fun x => if TC.isSt .int then AV.agg x else x[0]?.getD .und) (G := AV.int) (Q := fun _ => True) es (fun x hx => by
    have := h2 x hx
    rw [Ty] at this
    obtain ⟨n, _, rfl⟩ := this
    exact ⟨n, rfl, trivial⟩)
  refine ⟨l, ?_, by omega⟩
  rw [h3]
  rfl

theorem ty_cs {cs : List AV} (h : Ty (.sl (.sl (.st [.int, .int]))) cs) : ∃ l : List (List Sp), cs = [.sl 1 (l.map SS) .sh] ∧ l.length < 9223372036854775808 ∧ ∀ x ∈ l, x.length < 9223372036854775808 := by
  rw [Ty] at h
  obtain ⟨es, rfl, h1, h2⟩ := h
  obtain ⟨l, h3, h4, h5⟩ := map_choose (F := fun x => if TC.isSt (.sl (.st [.int, .int])) then AV.agg x else x[0]?.getD .und) (G := SS) (Q := fun s => s.length < 9223372036854775808) es (fun x hx => by
    obtain ⟨s, rfl, hs⟩ := ty_ss (h2 x hx)
    exact ⟨s, rfl, hs⟩)
  refine ⟨l, ?_, by omega, h5⟩
  rw [h3]
  rfl

abbrev tcB : TC := .st [.int, .int, .sl (.sl (.st [.int, .int])), .sl (.st [.int, .int])]

theorem ty_book {av : AV} (h : TyV tcB av) : ∃ b : Bk, av = KB b ∧ b.cords.length < 9223372036854775808 ∧ b.top.length < 9223372036854775808 ∧ ∀ x ∈ b.cords, x.length < 9223372036854775808 := by
  obtain ⟨cs, rfl, h⟩ := h
  simp only [TyL] at h
  obtain ⟨a, x, rfl, ha, b, y, rfl, hb, c, z, rfl, hc, d, u, rfl, hd, rfl⟩ := h
  rw [Ty] at ha hb
  obtain ⟨n, _, rfl⟩ := ha
  obtain ⟨m, _, rfl⟩ := hb
  obtain ⟨l, rfl, h1, h2⟩ := ty_cs hc
  obtain ⟨t, rfl, h3⟩ := ty_ss hd
  exact ⟨⟨n, m, l, t⟩, rfl, h1, h3, h2⟩

theorem ty_dig {av : AV} (h : TyV (.sl .int) av) : ∃ l : List Int, av = IS l ∧ l.length < 9223372036854775808 := by
  obtain ⟨l, h1, h2⟩ := ty_is h
  exact ⟨l, by simpa using h1, h2⟩

theorem ty_rs {av : AV} (h : TyV (.sl (.sl .int)) av) : ∃ l : List (List Int), av = .sl 1 (l.map IS) .sh ∧ l.length < 9223372036854775808 ∧ ∀ x ∈ l, x.length < 9223372036854775808 := by
  have h' : Ty (.sl (.sl .int)) [av] := h
  rw [Ty] at h'
  obtain ⟨es, e, h1, h2⟩ := h'
  obtain ⟨l, h3, h4, h5⟩ := map_choose (F := fun x => if TC.isSt (.sl .int) then AV.agg x else x[0]?.getD .und) (G := IS) (Q := fun s => s.length < 9223372036854775808) es (fun x hx => by
    obtain ⟨s, rfl, hs⟩ := ty_is (h2 x hx)
    exact ⟨s, rfl, hs⟩)
  refine ⟨l, ?_, by omega, h5⟩
  rw [h3] at e
  simp only [List.cons.injEq, and_true] at e
  exact e

theorem ty_sp1 {av : AV} (h : TyV (.st [.int, .int]) av) : ∃ s : Sp, av = SP s := by
  obtain ⟨cs, rfl, h⟩ := h
  obtain ⟨s, rfl⟩ := ty_sp (cs := cs) h
  exact ⟨s, rfl⟩

theorem ty_ask {av : AV} (h : TyV (.st [.int, .int, .int]) av) : ∃ n c p : Int, av = .agg [.int n, .int c, .int p] := by
  obtain ⟨cs, rfl, h⟩ := h
  simp only [TyL] at h
  obtain ⟨a, x, rfl, ha, b, y, rfl, hb, c, z, rfl, hc, rfl⟩ := h
  rw [Ty] at ha hb hc
  obtain ⟨n, _, rfl⟩ := ha
  obtain ⟨m, _, rfl⟩ := hb
  obtain ⟨k, _, rfl⟩ := hc
  exact ⟨n, m, k, rfl⟩

theorem ty_int {av : AV} (h : TyV .int av) : ∃ n : Int, av = .int n ∧ -9223372036854775808 ≤ n ∧ n ≤ 9223372036854775807 := by
  have h' : Ty .int [av] := h
  rw [Ty] at h'
  obtain ⟨n, h1, h2⟩ := h'
  exact ⟨n, by simpa using h2, h1.1, h1.2⟩

theorem laidOutP : laidOutB Try.prog = true := by kernel_rfl

end Go.Proofs.Ytkkiipjfbebipaa

/- The reference's Knots and cost. -/
set_option linter.unusedSimpArgs false
set_option linter.unusedVariables false
set_option linter.unnecessarySimpa false
namespace Go.Proofs.Ytkkiipjfbebipaa
open Go Go.V

theorem isum_le {n : Nat} {f : Nat → Int} {K : Int} (h : ∀ i, i < n → f i ≤ K) : isum n f ≤ n * K := by
  induction n with
  | zero => simp [isum_zero]
  | succ n ih =>
    rw [isum_succ]
    have h1 := ih fun i hi => h i (by omega)
    have h2 := h n (by omega)
    have : ((n + 1 : Nat) : Int) * K = n * K + K := by
      rw [Int.natCast_add, Int.add_mul]
      simp
    omega

def knotsL (l : List Sp) (ds : List Int) (k : Nat) : Int := isum k fun i => costL (l[i]?.getD default) (ds[i]?.getD default)

theorem c75 (l : List Sp) (ds : List Int) (h : ds.length = l.length) (hl : l.length ≤ 1000) (hs : ∀ s ∈ l, 0 ≤ s.lo ∧ s.lo ≤ s.hi ∧ s.hi ≤ 1000) (hd : ∀ d ∈ ds, 0 ≤ d ∧ d ≤ 1000) : Ctr Try.prog 75 [SS l, IS ds] (.int (knotsL l ds l.length)) := by
  refine ctr_of_wp hmix Try.func75 m75 rfl ?_
  unfold v75 IS
  simp (config := { failIfUnchanged := false }) (disch := first | omega | (simp only [List.length_map, List.length_append, List.length_cons, List.length_nil, List.length_take, List.length_drop, cells_int, cells_bool, cells_agg, cells_sl, cells_clo, cells_und, wcs_len, List.length_replicate, List.length_set]; done) | (simp only [List.length_map, List.length_append, List.length_cons, List.length_nil, List.length_take, List.length_drop, cells_int, cells_bool, cells_agg, cells_sl, cells_clo, cells_und, wcs_len, List.length_replicate, List.length_set]; omega)) only [go_sem, ↓reduceIte, reduceCtorEq, Nat.reduceEqDiff, Nat.reduceAdd, Nat.reduceMul, Nat.reduceSub, Nat.reduceLeDiff, Int.reduceEq, Int.reduceLT, Int.reduceLE, Int.reduceAdd, Int.reduceSub, Int.reduceMul, Int.reduceNeg, Int.reduceToNat]
  refine wp_loop' Nat (fun i => ⟨[(0, SS l), (1, IS ds), (5, .int (knotsL l ds i)), (6, .int i)], [], [], none⟩) (fun i => i ≤ l.length) (fun i => l.length - i) 0 (by simp) (by unfold IS; simp (config := { failIfUnchanged := false }) (disch := first | omega | (simp only [List.length_map, List.length_append, List.length_cons, List.length_nil, List.length_take, List.length_drop, cells_int, cells_bool, cells_agg, cells_sl, cells_clo, cells_und, wcs_len, List.length_replicate, List.length_set]; done) | (simp only [List.length_map, List.length_append, List.length_cons, List.length_nil, List.length_take, List.length_drop, cells_int, cells_bool, cells_agg, cells_sl, cells_clo, cells_und, wcs_len, List.length_replicate, List.length_set]; omega)) only [go_sem, ↓reduceIte, reduceCtorEq, Nat.reduceEqDiff, Nat.reduceAdd, Nat.reduceMul, Nat.reduceSub, Nat.reduceLeDiff, Int.reduceEq, Int.reduceLT, Int.reduceLE, Int.reduceAdd, Int.reduceSub, Int.reduceMul, Int.reduceNeg, Int.reduceToNat]; simp [knotsL, isum_zero]) ?_
  intro i hi
  unfold IS
  simp (config := { failIfUnchanged := false }) (disch := first | omega | (simp only [List.length_map, List.length_append, List.length_cons, List.length_nil, List.length_take, List.length_drop, cells_int, cells_bool, cells_agg, cells_sl, cells_clo, cells_und, wcs_len, List.length_replicate, List.length_set]; done) | (simp only [List.length_map, List.length_append, List.length_cons, List.length_nil, List.length_take, List.length_drop, cells_int, cells_bool, cells_agg, cells_sl, cells_clo, cells_und, wcs_len, List.length_replicate, List.length_set]; omega)) only [go_sem, ↓reduceIte, reduceCtorEq, Nat.reduceEqDiff, Nat.reduceAdd, Nat.reduceMul, Nat.reduceSub, Nat.reduceLeDiff, Int.reduceEq, Int.reduceLT, Int.reduceLE, Int.reduceAdd, Int.reduceSub, Int.reduceMul, Int.reduceNeg, Int.reduceToNat]
  refine wcond_dec (fun h1 => ?_) (fun h1 => ?_)
  · have hlt : i < l.length := by omega
    obtain ⟨s1, s2, s3⟩ := hs _ (mem_getD hlt)
    obtain ⟨d1, d2⟩ := hd _ (mem_getD (show i < ds.length by omega))
    have hk0 : 0 ≤ knotsL l ds i := isum_nonneg fun j _ => costL_nonneg _ _
    have hk1 : knotsL l ds i ≤ i * 1000 := isum_le fun j hj => by
      obtain ⟨a1, a2, a3⟩ := hs _ (mem_getD (show j < l.length by omega))
      obtain ⟨b1, b2⟩ := hd _ (mem_getD (show j < ds.length by omega))
      unfold costL
      omega
    have hsucc : knotsL l ds (i + 1) = knotsL l ds i + costL (l[i]?.getD default) (ds[i]?.getD default) := isum_succ _ _
    unfold costL at hsucc
    generalize hs0 : l[i]?.getD default = s at *
    generalize hd0 : ds[i]?.getD default = d at *
    generalize knotsL l ds i = K at *
    simp (config := { failIfUnchanged := false }) (disch := first | omega | (simp only [List.length_map, List.length_append, List.length_cons, List.length_nil, List.length_take, List.length_drop, cells_int, cells_bool, cells_agg, cells_sl, cells_clo, cells_und, wcs_len, List.length_replicate, List.length_set]; done) | (simp only [List.length_map, List.length_append, List.length_cons, List.length_nil, List.length_take, List.length_drop, cells_int, cells_bool, cells_agg, cells_sl, cells_clo, cells_und, wcs_len, List.length_replicate, List.length_set]; omega)) only [go_sem, ↓reduceIte, reduceCtorEq, Nat.reduceEqDiff, Nat.reduceAdd, Nat.reduceMul, Nat.reduceSub, Nat.reduceLeDiff, Int.reduceEq, Int.reduceLT, Int.reduceLE, Int.reduceAdd, Int.reduceSub, Int.reduceMul, Int.reduceNeg, Int.reduceToNat, hs0, hd0]
    refine ⟨i + 1, by omega, by dsimp only; omega, ?_⟩
    dsimp only
    rw [hsucc]
    simp (config := { failIfUnchanged := false }) (disch := first | omega | (simp only [List.length_map, List.length_append, List.length_cons, List.length_nil, List.length_take, List.length_drop, cells_int, cells_bool, cells_agg, cells_sl, cells_clo, cells_und, wcs_len, List.length_replicate, List.length_set]; done) | (simp only [List.length_map, List.length_append, List.length_cons, List.length_nil, List.length_take, List.length_drop, cells_int, cells_bool, cells_agg, cells_sl, cells_clo, cells_und, wcs_len, List.length_replicate, List.length_set]; omega)) only [go_sem, ↓reduceIte, reduceCtorEq, Nat.reduceEqDiff, Nat.reduceAdd, Nat.reduceMul, Nat.reduceSub, Nat.reduceLeDiff, Int.reduceEq, Int.reduceLT, Int.reduceLE, Int.reduceAdd, Int.reduceSub, Int.reduceMul, Int.reduceNeg, Int.reduceToNat]
    simp
  · have e : i = l.length := by omega
    subst e
    simp (config := { failIfUnchanged := false }) (disch := first | omega | (simp only [List.length_map, List.length_append, List.length_cons, List.length_nil, List.length_take, List.length_drop, cells_int, cells_bool, cells_agg, cells_sl, cells_clo, cells_und, wcs_len, List.length_replicate, List.length_set]; done) | (simp only [List.length_map, List.length_append, List.length_cons, List.length_nil, List.length_take, List.length_drop, cells_int, cells_bool, cells_agg, cells_sl, cells_clo, cells_und, wcs_len, List.length_replicate, List.length_set]; omega)) only [go_sem, ↓reduceIte, reduceCtorEq, Nat.reduceEqDiff, Nat.reduceAdd, Nat.reduceMul, Nat.reduceSub, Nat.reduceLeDiff, Int.reduceEq, Int.reduceLT, Int.reduceLE, Int.reduceAdd, Int.reduceSub, Int.reduceMul, Int.reduceNeg, Int.reduceToNat]

/-- A sum that may be of any function. -/
theorem knotsL_bd {b : Bk} (hv : Val b) {c : Nat} (hc : c ≤ b.cords.length) (l : List Nat) : 0 ≤ (isum b.places.toNat fun p => costL (cordSp b c p) (dgN b l c p : Nat)) ∧ (isum b.places.toNat fun p => costL (cordSp b c p) (dgN b l c p : Nat)) ≤ 40 := by
  have hbb := hv.hb
  have hpp := hv.hp
  obtain ⟨h1, h2⟩ := cordAt_val hv hc
  refine ⟨isum_nonneg fun p _ => costL_nonneg _ _, ?_⟩
  have : (isum b.places.toNat fun p => costL (cordSp b c p) (dgN b l c p : Nat)) ≤ (b.places.toNat : Int) * 10 := isum_le fun p hp => by
    obtain ⟨s1, s2, s3⟩ := h2 _ (mem_getD (show p < (cordAt b c).length by omega))
    have : dgN b l c p < b.base.toNat := Nat.mod_lt _ (by omega)
    unfold costL cordSp
    omega
  omega

theorem knotsL_tie {b : Bk} (hv : Val b) {c : Nat} (hc : c ≤ b.cords.length) (l : List Nat) : knotsL (cordAt b c) (tieN b.base.toNat b.places.toNat (l[c]?.getD default)) (cordAt b c).length = isum b.places.toNat fun p => costL (cordSp b c p) (dgN b l c p : Nat) := by
  have h1 := (cordAt_val hv hc).1
  have hpp := hv.hp
  unfold knotsL
  rw [show (cordAt b c).length = b.places.toNat by omega]
  refine isum_congr fun p hp => ?_
  rw [tieN_at _ _ _ _ hp]
  rfl

theorem c75r (b : Bk) (hv : Val b) {c : Nat} (hc : c ≤ b.cords.length) (l : List Nat) : Ctr Try.prog 75 [SS (cordAt b c), IS (tieN b.base.toNat b.places.toNat (l[c]?.getD default))] (.int (isum b.places.toNat fun p => costL (cordSp b c p) (dgN b l c p : Nat))) := by
  obtain ⟨h1, h2⟩ := cordAt_val hv hc
  have hbb := hv.hb
  have hpp := hv.hp
  have := c75 (cordAt b c) (tieN b.base.toNat b.places.toNat (l[c]?.getD default)) (by rw [tieN_len]; omega) (by omega) (fun s hs => by have := h2 s hs; omega) (fun d hd => by
    obtain ⟨i, hi, rfl⟩ := List.mem_iff_getElem.1 hd
    have hi' : i < b.places.toNat := by rwa [tieN_len] at hi
    have := tieN_at b.base.toNat b.places.toNat (l[c]?.getD default) i hi'
    rw [List.getElem?_eq_getElem hi, Option.getD_some] at this
    rw [this]
    have := Nat.mod_lt (l[c]?.getD default / b.base.toNat ^ (b.places.toNat - 1 - i)) (show 0 < b.base.toNat by omega)
    omega)
  rwa [knotsL_tie hv hc] at this

theorem costN_bd {b : Bk} (hv : Val b) (l : List Nat) : 0 ≤ costN b l ∧ costN b l ≤ 200 := by
  have hcl := hv.hc
  refine ⟨isum_nonneg fun c hc => (knotsL_bd hv (by omega) l).1, ?_⟩
  have : costN b l ≤ ((b.cords.length + 1 : Nat) : Int) * 40 := isum_le fun c hc => (knotsL_bd hv (by omega) l).2
  omega

theorem c107 (b : Bk) (hv : Val b) (l : List Nat) (hl : l.length = b.cords.length + 1) (hsm : ∀ x ∈ l, x < allN b) : Ctr Try.prog 107 [KB b, IS (nat l)] (.int (costN b l)) := by
  refine ctr_of_wp hmix Try.func107 m107 rfl ?_
  unfold v107
  have hall := allN_le hv
  have hcl := hv.hc
  have hnl : (nat l).length = b.cords.length + 1 := by rw [List.length_map]; exact hl
  simp (config := { failIfUnchanged := false }) (disch := first | omega | (simp only [List.length_map, List.length_append, List.length_cons, List.length_nil, List.length_take, List.length_drop, cells_int, cells_bool, cells_agg, cells_sl, cells_clo, cells_und, wcs_len, List.length_replicate, List.length_set]; done) | (simp only [List.length_map, List.length_append, List.length_cons, List.length_nil, List.length_take, List.length_drop, cells_int, cells_bool, cells_agg, cells_sl, cells_clo, cells_und, wcs_len, List.length_replicate, List.length_set]; omega)) only [go_sem, ↓reduceIte, reduceCtorEq, Nat.reduceEqDiff, Nat.reduceAdd, Nat.reduceMul, Nat.reduceSub, Nat.reduceLeDiff, Int.reduceEq, Int.reduceLT, Int.reduceLE, Int.reduceAdd, Int.reduceSub, Int.reduceMul, Int.reduceNeg, Int.reduceToNat]
  refine wp_loop' Nat (fun i => ⟨[(1, IS (nat l)), (2, .ptr 2 0), (5, .int (isum i fun c => isum b.places.toNat fun p => costL (cordSp b c p) (dgN b l c p : Nat))), (6, .int i)], [(2, ⟨[.int b.base, .int b.places, .sl 1 (b.cords.map SS) .sh, SS b.top], false⟩)], [], none⟩) (fun i => i ≤ b.cords.length + 1) (fun i => b.cords.length + 1 - i) 0 (by simp) (by simp (config := { failIfUnchanged := false }) (disch := first | omega | (simp only [List.length_map, List.length_append, List.length_cons, List.length_nil, List.length_take, List.length_drop, cells_int, cells_bool, cells_agg, cells_sl, cells_clo, cells_und, wcs_len, List.length_replicate, List.length_set]; done) | (simp only [List.length_map, List.length_append, List.length_cons, List.length_nil, List.length_take, List.length_drop, cells_int, cells_bool, cells_agg, cells_sl, cells_clo, cells_und, wcs_len, List.length_replicate, List.length_set]; omega)) only [go_sem, ↓reduceIte, reduceCtorEq, Nat.reduceEqDiff, Nat.reduceAdd, Nat.reduceMul, Nat.reduceSub, Nat.reduceLeDiff, Int.reduceEq, Int.reduceLT, Int.reduceLE, Int.reduceAdd, Int.reduceSub, Int.reduceMul, Int.reduceNeg, Int.reduceToNat]; simp [isum_zero]) ?_
  intro i hi
  have hs1 : 0 ≤ isum i fun c => isum b.places.toNat fun p => costL (cordSp b c p) (dgN b l c p : Nat) := isum_nonneg fun c hc => (knotsL_bd hv (by omega) l).1
  have hs2 : (isum i fun c => isum b.places.toNat fun p => costL (cordSp b c p) (dgN b l c p : Nat)) ≤ (i : Int) * 40 := isum_le fun c hc => (knotsL_bd hv (by omega) l).2
  have hsucc : (isum (i + 1) fun c => isum b.places.toNat fun p => costL (cordSp b c p) (dgN b l c p : Nat)) = (isum i fun c => isum b.places.toNat fun p => costL (cordSp b c p) (dgN b l c p : Nat)) + isum b.places.toNat fun p => costL (cordSp b i p) (dgN b l i p : Nat) := isum_succ _ _
  simp (config := { failIfUnchanged := false }) (disch := first | omega | (simp only [List.length_map, List.length_append, List.length_cons, List.length_nil, List.length_take, List.length_drop, cells_int, cells_bool, cells_agg, cells_sl, cells_clo, cells_und, wcs_len, List.length_replicate, List.length_set]; done) | (simp only [List.length_map, List.length_append, List.length_cons, List.length_nil, List.length_take, List.length_drop, cells_int, cells_bool, cells_agg, cells_sl, cells_clo, cells_und, wcs_len, List.length_replicate, List.length_set]; omega)) only [go_sem, ↓reduceIte, reduceCtorEq, Nat.reduceEqDiff, Nat.reduceAdd, Nat.reduceMul, Nat.reduceSub, Nat.reduceLeDiff, Int.reduceEq, Int.reduceLT, Int.reduceLE, Int.reduceAdd, Int.reduceSub, Int.reduceMul, Int.reduceNeg, Int.reduceToNat]
  refine wcond_dec (fun h1 => ?_) (fun h1 => ?_)
  · have hic : i ≤ b.cords.length := by omega
    have hxl : l[i]?.getD default < allN b := hsm _ (mem_getD (by omega))
    have hkb := knotsL_bd hv hic l
    simp (config := { failIfUnchanged := false }) (disch := first | omega | (simp only [List.length_map, List.length_append, List.length_cons, List.length_nil, List.length_take, List.length_drop, cells_int, cells_bool, cells_agg, cells_sl, cells_clo, cells_und, wcs_len, List.length_replicate, List.length_set]; done) | (simp only [List.length_map, List.length_append, List.length_cons, List.length_nil, List.length_take, List.length_drop, cells_int, cells_bool, cells_agg, cells_sl, cells_clo, cells_und, wcs_len, List.length_replicate, List.length_set]; omega)) only [go_sem, ↓reduceIte, reduceCtorEq, Nat.reduceEqDiff, Nat.reduceAdd, Nat.reduceMul, Nat.reduceSub, Nat.reduceLeDiff, Int.reduceEq, Int.reduceLT, Int.reduceLE, Int.reduceAdd, Int.reduceSub, Int.reduceMul, Int.reduceNeg, Int.reduceToNat]
    refine wcall (c32 b i hic) ?_
    simp (config := { failIfUnchanged := false }) (disch := first | omega | (simp only [List.length_map, List.length_append, List.length_cons, List.length_nil, List.length_take, List.length_drop, cells_int, cells_bool, cells_agg, cells_sl, cells_clo, cells_und, wcs_len, List.length_replicate, List.length_set]; done) | (simp only [List.length_map, List.length_append, List.length_cons, List.length_nil, List.length_take, List.length_drop, cells_int, cells_bool, cells_agg, cells_sl, cells_clo, cells_und, wcs_len, List.length_replicate, List.length_set]; omega)) only [go_sem, ↓reduceIte, reduceCtorEq, Nat.reduceEqDiff, Nat.reduceAdd, Nat.reduceMul, Nat.reduceSub, Nat.reduceLeDiff, Int.reduceEq, Int.reduceLT, Int.reduceLE, Int.reduceAdd, Int.reduceSub, Int.reduceMul, Int.reduceNeg, Int.reduceToNat, nat_get]
    refine wcall (c69 b hv (l[i]?.getD default) (by omega)) ?_
    simp (config := { failIfUnchanged := false }) (disch := first | omega | (simp only [List.length_map, List.length_append, List.length_cons, List.length_nil, List.length_take, List.length_drop, cells_int, cells_bool, cells_agg, cells_sl, cells_clo, cells_und, wcs_len, List.length_replicate, List.length_set]; done) | (simp only [List.length_map, List.length_append, List.length_cons, List.length_nil, List.length_take, List.length_drop, cells_int, cells_bool, cells_agg, cells_sl, cells_clo, cells_und, wcs_len, List.length_replicate, List.length_set]; omega)) only [go_sem, ↓reduceIte, reduceCtorEq, Nat.reduceEqDiff, Nat.reduceAdd, Nat.reduceMul, Nat.reduceSub, Nat.reduceLeDiff, Int.reduceEq, Int.reduceLT, Int.reduceLE, Int.reduceAdd, Int.reduceSub, Int.reduceMul, Int.reduceNeg, Int.reduceToNat]
    refine wcall (c75r b hv hic l) ?_
    generalize (isum i fun c => isum b.places.toNat fun p => costL (cordSp b c p) (dgN b l c p : Nat)) = S at *
    generalize (isum b.places.toNat fun p => costL (cordSp b i p) (dgN b l i p : Nat)) = K at *
    simp (config := { failIfUnchanged := false }) (disch := first | omega | (simp only [List.length_map, List.length_append, List.length_cons, List.length_nil, List.length_take, List.length_drop, cells_int, cells_bool, cells_agg, cells_sl, cells_clo, cells_und, wcs_len, List.length_replicate, List.length_set]; done) | (simp only [List.length_map, List.length_append, List.length_cons, List.length_nil, List.length_take, List.length_drop, cells_int, cells_bool, cells_agg, cells_sl, cells_clo, cells_und, wcs_len, List.length_replicate, List.length_set]; omega)) only [go_sem, ↓reduceIte, reduceCtorEq, Nat.reduceEqDiff, Nat.reduceAdd, Nat.reduceMul, Nat.reduceSub, Nat.reduceLeDiff, Int.reduceEq, Int.reduceLT, Int.reduceLE, Int.reduceAdd, Int.reduceSub, Int.reduceMul, Int.reduceNeg, Int.reduceToNat]
    refine ⟨i + 1, by omega, by dsimp only; omega, ?_⟩
    dsimp only
    rw [hsucc]
    simp (config := { failIfUnchanged := false }) (disch := first | omega | (simp only [List.length_map, List.length_append, List.length_cons, List.length_nil, List.length_take, List.length_drop, cells_int, cells_bool, cells_agg, cells_sl, cells_clo, cells_und, wcs_len, List.length_replicate, List.length_set]; done) | (simp only [List.length_map, List.length_append, List.length_cons, List.length_nil, List.length_take, List.length_drop, cells_int, cells_bool, cells_agg, cells_sl, cells_clo, cells_und, wcs_len, List.length_replicate, List.length_set]; omega)) only [go_sem, ↓reduceIte, reduceCtorEq, Nat.reduceEqDiff, Nat.reduceAdd, Nat.reduceMul, Nat.reduceSub, Nat.reduceLeDiff, Int.reduceEq, Int.reduceLT, Int.reduceLE, Int.reduceAdd, Int.reduceSub, Int.reduceMul, Int.reduceNeg, Int.reduceToNat]
    simp
  · have e : i = b.cords.length + 1 := by omega
    subst e
    simp (config := { failIfUnchanged := false }) (disch := first | omega | (simp only [List.length_map, List.length_append, List.length_cons, List.length_nil, List.length_take, List.length_drop, cells_int, cells_bool, cells_agg, cells_sl, cells_clo, cells_und, wcs_len, List.length_replicate, List.length_set]; done) | (simp only [List.length_map, List.length_append, List.length_cons, List.length_nil, List.length_take, List.length_drop, cells_int, cells_bool, cells_agg, cells_sl, cells_clo, cells_und, wcs_len, List.length_replicate, List.length_set]; omega)) only [go_sem, ↓reduceIte, reduceCtorEq, Nat.reduceEqDiff, Nat.reduceAdd, Nat.reduceMul, Nat.reduceSub, Nat.reduceLeDiff, Int.reduceEq, Int.reduceLT, Int.reduceLE, Int.reduceAdd, Int.reduceSub, Int.reduceMul, Int.reduceNeg, Int.reduceToNat]
    rfl

end Go.Proofs.Ytkkiipjfbebipaa

/- Wide; the reference's Retie and Blame. -/
set_option linter.unusedSimpArgs false
set_option linter.unusedVariables false
set_option linter.unnecessarySimpa false
namespace Go.Proofs.Ytkkiipjfbebipaa
open Go Go.V

def wideP (b : Bk) : Bool := (List.range (max 1 b.cords.length)).any fun i => decide (1300 < allN b ^ (i + 1))
def wideB (b : Bk) : Bool := hugeB b || (checkB b && wideP b)

theorem c22 (b : Bk) (h1 : b.cords.length < 9223372036854775808) : Ctr Try.prog 22 [KB b] (.bool (wideB b)) := by
  refine ctr_of_wp hmix Try.func22 m22 rfl ?_
  unfold v22 wideB
  simp (config := { failIfUnchanged := false }) (disch := first | omega | (simp only [List.length_map, List.length_append, List.length_cons, List.length_nil, List.length_take, List.length_drop, cells_int, cells_bool, cells_agg, cells_sl, cells_clo, cells_und, wcs_len, List.length_replicate, List.length_set]; done) | (simp only [List.length_map, List.length_append, List.length_cons, List.length_nil, List.length_take, List.length_drop, cells_int, cells_bool, cells_agg, cells_sl, cells_clo, cells_und, wcs_len, List.length_replicate, List.length_set]; omega)) only [go_sem, ↓reduceIte, reduceCtorEq, Nat.reduceEqDiff, Nat.reduceAdd, Nat.reduceMul, Nat.reduceSub, Nat.reduceLeDiff, Int.reduceEq, Int.reduceLT, Int.reduceLE, Int.reduceAdd, Int.reduceSub, Int.reduceMul, Int.reduceNeg, Int.reduceToNat]
  refine wcall (c48 b h1) ?_
  cases hh : hugeB b with
  | true => simp (config := { failIfUnchanged := false }) (disch := first | omega | (simp only [List.length_map, List.length_append, List.length_cons, List.length_nil, List.length_take, List.length_drop, cells_int, cells_bool, cells_agg, cells_sl, cells_clo, cells_und, wcs_len, List.length_replicate, List.length_set]; done) | (simp only [List.length_map, List.length_append, List.length_cons, List.length_nil, List.length_take, List.length_drop, cells_int, cells_bool, cells_agg, cells_sl, cells_clo, cells_und, wcs_len, List.length_replicate, List.length_set]; omega)) only [go_sem, ↓reduceIte, reduceCtorEq, Nat.reduceEqDiff, Nat.reduceAdd, Nat.reduceMul, Nat.reduceSub, Nat.reduceLeDiff, Int.reduceEq, Int.reduceLT, Int.reduceLE, Int.reduceAdd, Int.reduceSub, Int.reduceMul, Int.reduceNeg, Int.reduceToNat]
  | false =>
    have hs := small_small hh
    simp (config := { failIfUnchanged := false }) (disch := first | omega | (simp only [List.length_map, List.length_append, List.length_cons, List.length_nil, List.length_take, List.length_drop, cells_int, cells_bool, cells_agg, cells_sl, cells_clo, cells_und, wcs_len, List.length_replicate, List.length_set]; done) | (simp only [List.length_map, List.length_append, List.length_cons, List.length_nil, List.length_take, List.length_drop, cells_int, cells_bool, cells_agg, cells_sl, cells_clo, cells_und, wcs_len, List.length_replicate, List.length_set]; omega)) only [go_sem, ↓reduceIte, reduceCtorEq, Nat.reduceEqDiff, Nat.reduceAdd, Nat.reduceMul, Nat.reduceSub, Nat.reduceLeDiff, Int.reduceEq, Int.reduceLT, Int.reduceLE, Int.reduceAdd, Int.reduceSub, Int.reduceMul, Int.reduceNeg, Int.reduceToNat]
    refine wcall (c50 b hs) ?_
    cases hc : checkB b with
    | false => simp (config := { failIfUnchanged := false }) (disch := first | omega | (simp only [List.length_map, List.length_append, List.length_cons, List.length_nil, List.length_take, List.length_drop, cells_int, cells_bool, cells_agg, cells_sl, cells_clo, cells_und, wcs_len, List.length_replicate, List.length_set]; done) | (simp only [List.length_map, List.length_append, List.length_cons, List.length_nil, List.length_take, List.length_drop, cells_int, cells_bool, cells_agg, cells_sl, cells_clo, cells_und, wcs_len, List.length_replicate, List.length_set]; omega)) only [go_sem, ↓reduceIte, reduceCtorEq, Nat.reduceEqDiff, Nat.reduceAdd, Nat.reduceMul, Nat.reduceSub, Nat.reduceLeDiff, Int.reduceEq, Int.reduceLT, Int.reduceLE, Int.reduceAdd, Int.reduceSub, Int.reduceMul, Int.reduceNeg, Int.reduceToNat]
    | true =>
      have hv := val_of_check hc
      have hall := allN_le hv
      have hcl := hv.hc
      simp (config := { failIfUnchanged := false }) (disch := first | omega | (simp only [List.length_map, List.length_append, List.length_cons, List.length_nil, List.length_take, List.length_drop, cells_int, cells_bool, cells_agg, cells_sl, cells_clo, cells_und, wcs_len, List.length_replicate, List.length_set]; done) | (simp only [List.length_map, List.length_append, List.length_cons, List.length_nil, List.length_take, List.length_drop, cells_int, cells_bool, cells_agg, cells_sl, cells_clo, cells_und, wcs_len, List.length_replicate, List.length_set]; omega)) only [go_sem, ↓reduceIte, reduceCtorEq, Nat.reduceEqDiff, Nat.reduceAdd, Nat.reduceMul, Nat.reduceSub, Nat.reduceLeDiff, Int.reduceEq, Int.reduceLT, Int.reduceLE, Int.reduceAdd, Int.reduceSub, Int.reduceMul, Int.reduceNeg, Int.reduceToNat]
      refine wp_loop' Nat (fun i => ⟨[(1, .ptr 1 0), (3, .int (allN b ^ i : Nat)), (4, .int i)], [(1, ⟨[.int b.base, .int b.places, .sl 1 (b.cords.map SS) .sh, SS b.top], false⟩)], [], none⟩) (fun i => i ≤ max 1 b.cords.length ∧ allN b ^ i ≤ 1300 ∧ ∀ j, j < i → decide (1300 < allN b ^ (j + 1)) = false) (fun i => max 1 b.cords.length - i) 0 ⟨by simp, by simp, by simp⟩ (by simp (config := { failIfUnchanged := false }) (disch := first | omega | (simp only [List.length_map, List.length_append, List.length_cons, List.length_nil, List.length_take, List.length_drop, cells_int, cells_bool, cells_agg, cells_sl, cells_clo, cells_und, wcs_len, List.length_replicate, List.length_set]; done) | (simp only [List.length_map, List.length_append, List.length_cons, List.length_nil, List.length_take, List.length_drop, cells_int, cells_bool, cells_agg, cells_sl, cells_clo, cells_und, wcs_len, List.length_replicate, List.length_set]; omega)) only [go_sem, ↓reduceIte, reduceCtorEq, Nat.reduceEqDiff, Nat.reduceAdd, Nat.reduceMul, Nat.reduceSub, Nat.reduceLeDiff, Int.reduceEq, Int.reduceLT, Int.reduceLE, Int.reduceAdd, Int.reduceSub, Int.reduceMul, Int.reduceNeg, Int.reduceToNat]; simp) ?_
      rintro i ⟨hi, hn, hpre⟩
      simp (config := { failIfUnchanged := false }) (disch := first | omega | (simp only [List.length_map, List.length_append, List.length_cons, List.length_nil, List.length_take, List.length_drop, cells_int, cells_bool, cells_agg, cells_sl, cells_clo, cells_und, wcs_len, List.length_replicate, List.length_set]; done) | (simp only [List.length_map, List.length_append, List.length_cons, List.length_nil, List.length_take, List.length_drop, cells_int, cells_bool, cells_agg, cells_sl, cells_clo, cells_und, wcs_len, List.length_replicate, List.length_set]; omega)) only [go_sem, ↓reduceIte, reduceCtorEq, Nat.reduceEqDiff, Nat.reduceAdd, Nat.reduceMul, Nat.reduceSub, Nat.reduceLeDiff, Int.reduceEq, Int.reduceLT, Int.reduceLE, Int.reduceAdd, Int.reduceSub, Int.reduceMul, Int.reduceNeg, Int.reduceToNat]
      refine wcond_dec (fun h5 => ?_) (fun h5 => ?_)
      · have hlt : i < max 1 b.cords.length := by omega
        have hpow : allN b ^ (i + 1) = allN b ^ i * allN b := Nat.pow_succ ..
        have hmul : allN b ^ i * allN b ≤ 1300 * 10000 := Nat.mul_le_mul hn hall
        have hcast : ((allN b ^ i : Nat) : Int) * (allN b : Int) = ((allN b ^ (i + 1) : Nat) : Int) := by rw [hpow, Int.natCast_mul]
        have hy : 1300 < allN b ^ (i + 1) → wideP b = true := fun h => List.any_eq_true.2 ⟨i, by simpa using hlt, by simpa using h⟩
        have e3 : w64 (((allN b ^ i : Nat) : Int) * (allN b : Int)) = ((allN b ^ (i + 1) : Nat) : Int) := by
          rw [hcast]
          exact w64_id (by omega)
        simp (config := { failIfUnchanged := false }) (disch := first | omega | (simp only [List.length_map, List.length_append, List.length_cons, List.length_nil, List.length_take, List.length_drop, cells_int, cells_bool, cells_agg, cells_sl, cells_clo, cells_und, wcs_len, List.length_replicate, List.length_set]; done) | (simp only [List.length_map, List.length_append, List.length_cons, List.length_nil, List.length_take, List.length_drop, cells_int, cells_bool, cells_agg, cells_sl, cells_clo, cells_und, wcs_len, List.length_replicate, List.length_set]; omega)) only [go_sem, ↓reduceIte, reduceCtorEq, Nat.reduceEqDiff, Nat.reduceAdd, Nat.reduceMul, Nat.reduceSub, Nat.reduceLeDiff, Int.reduceEq, Int.reduceLT, Int.reduceLE, Int.reduceAdd, Int.reduceSub, Int.reduceMul, Int.reduceNeg, Int.reduceToNat]
        refine wcall (c41 b hv) ?_
        generalize hM : allN b ^ (i + 1) = M at *
        generalize hN : allN b ^ i = N at *
        simp (config := { failIfUnchanged := false }) (disch := first | omega | (simp only [List.length_map, List.length_append, List.length_cons, List.length_nil, List.length_take, List.length_drop, cells_int, cells_bool, cells_agg, cells_sl, cells_clo, cells_und, wcs_len, List.length_replicate, List.length_set]; done) | (simp only [List.length_map, List.length_append, List.length_cons, List.length_nil, List.length_take, List.length_drop, cells_int, cells_bool, cells_agg, cells_sl, cells_clo, cells_und, wcs_len, List.length_replicate, List.length_set]; omega)) only [go_sem, ↓reduceIte, reduceCtorEq, Nat.reduceEqDiff, Nat.reduceAdd, Nat.reduceMul, Nat.reduceSub, Nat.reduceLeDiff, Int.reduceEq, Int.reduceLT, Int.reduceLE, Int.reduceAdd, Int.reduceSub, Int.reduceMul, Int.reduceNeg, Int.reduceToNat, e3]
        refine wcond_dec (fun h8 => ?_) (fun h8 => ?_)
        · simp (config := { failIfUnchanged := false }) (disch := first | omega | (simp only [List.length_map, List.length_append, List.length_cons, List.length_nil, List.length_take, List.length_drop, cells_int, cells_bool, cells_agg, cells_sl, cells_clo, cells_und, wcs_len, List.length_replicate, List.length_set]; done) | (simp only [List.length_map, List.length_append, List.length_cons, List.length_nil, List.length_take, List.length_drop, cells_int, cells_bool, cells_agg, cells_sl, cells_clo, cells_und, wcs_len, List.length_replicate, List.length_set]; omega)) only [go_sem, ↓reduceIte, reduceCtorEq, Nat.reduceEqDiff, Nat.reduceAdd, Nat.reduceMul, Nat.reduceSub, Nat.reduceLeDiff, Int.reduceEq, Int.reduceLT, Int.reduceLE, Int.reduceAdd, Int.reduceSub, Int.reduceMul, Int.reduceNeg, Int.reduceToNat]
          simp [hy (by omega)]
        · simp (config := { failIfUnchanged := false }) (disch := first | omega | (simp only [List.length_map, List.length_append, List.length_cons, List.length_nil, List.length_take, List.length_drop, cells_int, cells_bool, cells_agg, cells_sl, cells_clo, cells_und, wcs_len, List.length_replicate, List.length_set]; done) | (simp only [List.length_map, List.length_append, List.length_cons, List.length_nil, List.length_take, List.length_drop, cells_int, cells_bool, cells_agg, cells_sl, cells_clo, cells_und, wcs_len, List.length_replicate, List.length_set]; omega)) only [go_sem, ↓reduceIte, reduceCtorEq, Nat.reduceEqDiff, Nat.reduceAdd, Nat.reduceMul, Nat.reduceSub, Nat.reduceLeDiff, Int.reduceEq, Int.reduceLT, Int.reduceLE, Int.reduceAdd, Int.reduceSub, Int.reduceMul, Int.reduceNeg, Int.reduceToNat]
          refine ⟨i + 1, ⟨by omega, by omega, fun j hj => ?_⟩, by dsimp only; omega, ?_⟩
          · rcases Nat.lt_or_ge j i with hj2 | hj2
            · exact hpre j hj2
            · have : j = i := by omega
              subst this
              rw [hM]
              simp
              omega
          · dsimp only
            rw [hM]
            simp (config := { failIfUnchanged := false }) (disch := first | omega | (simp only [List.length_map, List.length_append, List.length_cons, List.length_nil, List.length_take, List.length_drop, cells_int, cells_bool, cells_agg, cells_sl, cells_clo, cells_und, wcs_len, List.length_replicate, List.length_set]; done) | (simp only [List.length_map, List.length_append, List.length_cons, List.length_nil, List.length_take, List.length_drop, cells_int, cells_bool, cells_agg, cells_sl, cells_clo, cells_und, wcs_len, List.length_replicate, List.length_set]; omega)) only [go_sem, ↓reduceIte, reduceCtorEq, Nat.reduceEqDiff, Nat.reduceAdd, Nat.reduceMul, Nat.reduceSub, Nat.reduceLeDiff, Int.reduceEq, Int.reduceLT, Int.reduceLE, Int.reduceAdd, Int.reduceSub, Int.reduceMul, Int.reduceNeg, Int.reduceToNat]
            simp
      · have e : i = max 1 b.cords.length := by omega
        subst e
        simp (config := { failIfUnchanged := false }) (disch := first | omega | (simp only [List.length_map, List.length_append, List.length_cons, List.length_nil, List.length_take, List.length_drop, cells_int, cells_bool, cells_agg, cells_sl, cells_clo, cells_und, wcs_len, List.length_replicate, List.length_set]; done) | (simp only [List.length_map, List.length_append, List.length_cons, List.length_nil, List.length_take, List.length_drop, cells_int, cells_bool, cells_agg, cells_sl, cells_clo, cells_und, wcs_len, List.length_replicate, List.length_set]; omega)) only [go_sem, ↓reduceIte, reduceCtorEq, Nat.reduceEqDiff, Nat.reduceAdd, Nat.reduceMul, Nat.reduceSub, Nat.reduceLeDiff, Int.reduceEq, Int.reduceLT, Int.reduceLE, Int.reduceAdd, Int.reduceSub, Int.reduceMul, Int.reduceNeg, Int.reduceToNat]
        have : wideP b = false := List.any_eq_false.2 fun j hj => by rw [hpre j (by simpa using hj)]; simp
        simp [this]

theorem wide_pow {b : Bk} (h : wideP b = false) (h0 : 0 < allN b) : allN b ^ b.cords.length ≤ 1300 := by
  unfold wideP at h
  rw [List.any_eq_false] at h
  have h1 := h (max 1 b.cords.length - 1) (by simp; omega)
  rw [show max 1 b.cords.length - 1 + 1 = max 1 b.cords.length by omega] at h1
  have h2 : allN b ^ b.cords.length ≤ allN b ^ max 1 b.cords.length := Nat.pow_le_pow_right h0 (by omega)
  simp at h1
  omega

theorem tup_len (N : Nat) : ∀ m, (tup m N).length = N ^ m
  | 0 => rfl
  | m + 1 => by
    have : (tup (m + 1) N).length = sumF (List.range N) fun _ => (tup m N).length := by
      rw [tup, List.length_flatMap]
      simp [sumF]
    rw [this, tup_len N m]
    have e : (sumF (List.range N) fun _ => N ^ m) = (sumF (List.range N) fun _ => 1) * N ^ m := by
      generalize List.range N = l
      induction l with
      | nil => simp [sumF_nil]
      | cons a r ih => rw [sumF_cons, sumF_cons, ih, Nat.add_mul, Nat.one_mul]
    rw [e, sumF_len, List.length_range, Nat.pow_succ, Nat.mul_comm]

abbrev frNs (b : Bk) : List (List Nat) := sumsN b true b.cords.length []

theorem fr_count (b : Bk) : (frNs b).length ≤ allN b ^ b.cords.length := by
  have e1 : (frNs b).length = sumF (frNs b) fun _ => 1 := (sumF_len _).symm
  rw [e1, sumF_sumsN]
  refine Nat.le_trans (sumF_le (g := fun _ => 1) fun t _ => ?_) ?_
  · split <;> omega
  · rw [sumF_len, tup_len]
    exact Nat.le_refl _

theorem fr_mem {b : Bk} {l : List Nat} (h : l ∈ frNs b) : l.length = b.cords.length + 1 ∧ ∀ x ∈ l, x < allN b := by
  have := sumsN_mem b true b.cords.length [] l (by simp) h
  simpa using this

theorem fr_some {b : Bk} (h0 : 0 < allN b) : ∀ (k : Nat) (first : List Nat), first.sum = 0 → ∃ l, l ∈ sumsN b true k first
  | 0, first, h => by
    unfold sumsN
    rw [if_pos (by simp [h, h0])]
    exact ⟨_, List.mem_singleton.2 rfl⟩
  | k + 1, first, h => by
    obtain ⟨l, hl⟩ := fr_some h0 k (first ++ [0]) (by simpa using h)
    refine ⟨l, ?_⟩
    unfold sumsN
    exact List.mem_flatMap.2 ⟨0, List.mem_filter.2 ⟨by simpa using h0, by simp [isN]⟩, hl⟩

def minC (b : Bk) (L : List (List Nat)) (m : Nat) : Int := (L.take m).foldl (fun a l => min a (costN b l)) (costN b (L[0]?.getD default))
def leastB (b : Bk) : Int := minC b (frNs b) (frNs b).length
def retL (b : Bk) (m : Nat) : List (List Nat) := ((frNs b).take m).filter fun l => decide (costN b l = leastB b)

theorem c72 (b : Bk) (hv : Val b) (hlen : (frNs b).length < 4294967296) : Ctr Try.prog 72 [KB b] (.tup [ISS ((retL b (frNs b).length).map nat), .int (leastB b)]) := by
  refine ctr_of_wp hmix Try.func72 m72 rfl ?_
  unfold v72
  have hbb := hv.hb
  have h0 : 0 < allN b := Nat.pow_pos (by omega)
  obtain ⟨l0, hl0⟩ := fr_some h0 b.cords.length [] rfl
  have hpos : 0 < (frNs b).length := List.length_pos_of_mem hl0
  have hmem := @fr_mem b
  have hS : sumsF b true b.cords.length [] = (frNs b).map nat := sumsF_eq b true _ _
  simp (config := { failIfUnchanged := false }) (disch := first | omega | (simp only [List.length_map, List.length_append, List.length_cons, List.length_nil, List.length_take, List.length_drop, cells_int, cells_bool, cells_agg, cells_sl, cells_clo, cells_und, wcs_len, List.length_replicate, List.length_set]; done) | (simp only [List.length_map, List.length_append, List.length_cons, List.length_nil, List.length_take, List.length_drop, cells_int, cells_bool, cells_agg, cells_sl, cells_clo, cells_und, wcs_len, List.length_replicate, List.length_set]; omega)) only [go_sem, ↓reduceIte, reduceCtorEq, Nat.reduceEqDiff, Nat.reduceAdd, Nat.reduceMul, Nat.reduceSub, Nat.reduceLeDiff, Int.reduceEq, Int.reduceLT, Int.reduceLE, Int.reduceAdd, Int.reduceSub, Int.reduceMul, Int.reduceNeg, Int.reduceToNat]
  refine wcall (c68 b hv true b.cords.length [] (by simp) (by simp) (by rw [hS]; simpa using hlen)) ?_
  rw [hS]
  have hret : ∀ i, i < (frNs b).length → retL b (i + 1) = retL b i ++ if costN b ((frNs b)[i]?.getD default) = leastB b then [(frNs b)[i]?.getD default] else [] := by
    intro i hi
    unfold retL
    rw [take_snoc hi, List.filter_append]
    congr 1
    by_cases h : costN b ((frNs b)[i]?.getD default) = leastB b
    · rw [if_pos h]; simp [h]
    · rw [if_neg h]; simp [h]
  have hminS : ∀ i, i < (frNs b).length → minC b (frNs b) (i + 1) = min (minC b (frNs b) i) (costN b ((frNs b)[i]?.getD default)) := by
    intro i hi
    unfold minC
    rw [take_snoc hi, List.foldl_append]
    rfl
  have hmin0 : minC b (frNs b) 0 = costN b ((frNs b)[0]?.getD default) := by simp [minC]
  have hlast : minC b (frNs b) (frNs b).length = leastB b := rfl
  have hret0 : retL b 0 = [] := by simp [retL]
  have hretl : ∀ i, (retL b i).length ≤ (frNs b).length := fun i => by
    unfold retL
    have := List.length_filter_le (fun l => decide (costN b l = leastB b)) ((frNs b).take i)
    rw [List.length_take] at this
    omega
  generalize hL : frNs b = L at *
  obtain ⟨x0, hx0⟩ : ∃ x, L[0]? = some x := ⟨L[0], List.getElem?_eq_getElem hpos⟩
  have e00 : L[0]?.getD default = x0 := by rw [hx0]; rfl
  have e01 : (L.map nat)[0]?.getD default = nat x0 := by simp [hx0]
  have hxm := hmem (List.mem_of_getElem? hx0)
  rw [e00] at hmin0
  simp (config := { failIfUnchanged := false }) (disch := first | omega | (simp only [List.length_map, List.length_append, List.length_cons, List.length_nil, List.length_take, List.length_drop, cells_int, cells_bool, cells_agg, cells_sl, cells_clo, cells_und, wcs_len, List.length_replicate, List.length_set]; done) | (simp only [List.length_map, List.length_append, List.length_cons, List.length_nil, List.length_take, List.length_drop, cells_int, cells_bool, cells_agg, cells_sl, cells_clo, cells_und, wcs_len, List.length_replicate, List.length_set]; omega)) only [go_sem, ↓reduceIte, reduceCtorEq, Nat.reduceEqDiff, Nat.reduceAdd, Nat.reduceMul, Nat.reduceSub, Nat.reduceLeDiff, Int.reduceEq, Int.reduceLT, Int.reduceLE, Int.reduceAdd, Int.reduceSub, Int.reduceMul, Int.reduceNeg, Int.reduceToNat, e01]
  refine wcall (c107 b hv x0 hxm.1 hxm.2) ?_
  simp (config := { failIfUnchanged := false }) (disch := first | omega | (simp only [List.length_map, List.length_append, List.length_cons, List.length_nil, List.length_take, List.length_drop, cells_int, cells_bool, cells_agg, cells_sl, cells_clo, cells_und, wcs_len, List.length_replicate, List.length_set]; done) | (simp only [List.length_map, List.length_append, List.length_cons, List.length_nil, List.length_take, List.length_drop, cells_int, cells_bool, cells_agg, cells_sl, cells_clo, cells_und, wcs_len, List.length_replicate, List.length_set]; omega)) only [go_sem, ↓reduceIte, reduceCtorEq, Nat.reduceEqDiff, Nat.reduceAdd, Nat.reduceMul, Nat.reduceSub, Nat.reduceLeDiff, Int.reduceEq, Int.reduceLT, Int.reduceLE, Int.reduceAdd, Int.reduceSub, Int.reduceMul, Int.reduceNeg, Int.reduceToNat]
  refine wp_loop' Nat (fun i => ⟨[(1, .ptr 1 0), (4, ISS (L.map nat)), (5, .int (minC b L i)), (6, .int i)], [(1, ⟨[.int b.base, .int b.places, .sl 1 (b.cords.map SS) .sh, SS b.top], false⟩)], [], none⟩) (fun i => i ≤ L.length) (fun i => L.length - i) 0 (by simp) (by rw [hmin0]; simp (config := { failIfUnchanged := false }) (disch := first | omega | (simp only [List.length_map, List.length_append, List.length_cons, List.length_nil, List.length_take, List.length_drop, cells_int, cells_bool, cells_agg, cells_sl, cells_clo, cells_und, wcs_len, List.length_replicate, List.length_set]; done) | (simp only [List.length_map, List.length_append, List.length_cons, List.length_nil, List.length_take, List.length_drop, cells_int, cells_bool, cells_agg, cells_sl, cells_clo, cells_und, wcs_len, List.length_replicate, List.length_set]; omega)) only [go_sem, ↓reduceIte, reduceCtorEq, Nat.reduceEqDiff, Nat.reduceAdd, Nat.reduceMul, Nat.reduceSub, Nat.reduceLeDiff, Int.reduceEq, Int.reduceLT, Int.reduceLE, Int.reduceAdd, Int.reduceSub, Int.reduceMul, Int.reduceNeg, Int.reduceToNat]; simp) ?_
  intro i hi
  simp (config := { failIfUnchanged := false }) (disch := first | omega | (simp only [List.length_map, List.length_append, List.length_cons, List.length_nil, List.length_take, List.length_drop, cells_int, cells_bool, cells_agg, cells_sl, cells_clo, cells_und, wcs_len, List.length_replicate, List.length_set]; done) | (simp only [List.length_map, List.length_append, List.length_cons, List.length_nil, List.length_take, List.length_drop, cells_int, cells_bool, cells_agg, cells_sl, cells_clo, cells_und, wcs_len, List.length_replicate, List.length_set]; omega)) only [go_sem, ↓reduceIte, reduceCtorEq, Nat.reduceEqDiff, Nat.reduceAdd, Nat.reduceMul, Nat.reduceSub, Nat.reduceLeDiff, Int.reduceEq, Int.reduceLT, Int.reduceLE, Int.reduceAdd, Int.reduceSub, Int.reduceMul, Int.reduceNeg, Int.reduceToNat]
  refine wcond_dec (fun h1 => ?_) (fun h1 => ?_)
  · have hlt : i < L.length := by omega
    obtain ⟨l, hl⟩ : ∃ l, L[i]? = some l := ⟨L[i], List.getElem?_eq_getElem hlt⟩
    have e0 : L[i]?.getD default = l := by rw [hl]; rfl
    have e1 : (L.map nat)[i]?.getD default = nat l := by simp [hl]
    have hlm := hmem (List.mem_of_getElem? hl)
    simp (config := { failIfUnchanged := false }) (disch := first | omega | (simp only [List.length_map, List.length_append, List.length_cons, List.length_nil, List.length_take, List.length_drop, cells_int, cells_bool, cells_agg, cells_sl, cells_clo, cells_und, wcs_len, List.length_replicate, List.length_set]; done) | (simp only [List.length_map, List.length_append, List.length_cons, List.length_nil, List.length_take, List.length_drop, cells_int, cells_bool, cells_agg, cells_sl, cells_clo, cells_und, wcs_len, List.length_replicate, List.length_set]; omega)) only [go_sem, ↓reduceIte, reduceCtorEq, Nat.reduceEqDiff, Nat.reduceAdd, Nat.reduceMul, Nat.reduceSub, Nat.reduceLeDiff, Int.reduceEq, Int.reduceLT, Int.reduceLE, Int.reduceAdd, Int.reduceSub, Int.reduceMul, Int.reduceNeg, Int.reduceToNat, e1]
    refine wcall (c107 b hv l hlm.1 hlm.2) ?_
    simp (config := { failIfUnchanged := false }) (disch := first | omega | (simp only [List.length_map, List.length_append, List.length_cons, List.length_nil, List.length_take, List.length_drop, cells_int, cells_bool, cells_agg, cells_sl, cells_clo, cells_und, wcs_len, List.length_replicate, List.length_set]; done) | (simp only [List.length_map, List.length_append, List.length_cons, List.length_nil, List.length_take, List.length_drop, cells_int, cells_bool, cells_agg, cells_sl, cells_clo, cells_und, wcs_len, List.length_replicate, List.length_set]; omega)) only [go_sem, ↓reduceIte, reduceCtorEq, Nat.reduceEqDiff, Nat.reduceAdd, Nat.reduceMul, Nat.reduceSub, Nat.reduceLeDiff, Int.reduceEq, Int.reduceLT, Int.reduceLE, Int.reduceAdd, Int.reduceSub, Int.reduceMul, Int.reduceNeg, Int.reduceToNat]
    refine ⟨i + 1, by omega, by dsimp only; omega, ?_⟩
    dsimp only
    rw [hminS i hlt, e0]
    simp (config := { failIfUnchanged := false }) (disch := first | omega | (simp only [List.length_map, List.length_append, List.length_cons, List.length_nil, List.length_take, List.length_drop, cells_int, cells_bool, cells_agg, cells_sl, cells_clo, cells_und, wcs_len, List.length_replicate, List.length_set]; done) | (simp only [List.length_map, List.length_append, List.length_cons, List.length_nil, List.length_take, List.length_drop, cells_int, cells_bool, cells_agg, cells_sl, cells_clo, cells_und, wcs_len, List.length_replicate, List.length_set]; omega)) only [go_sem, ↓reduceIte, reduceCtorEq, Nat.reduceEqDiff, Nat.reduceAdd, Nat.reduceMul, Nat.reduceSub, Nat.reduceLeDiff, Int.reduceEq, Int.reduceLT, Int.reduceLE, Int.reduceAdd, Int.reduceSub, Int.reduceMul, Int.reduceNeg, Int.reduceToNat]
    simp
  · have e : i = L.length := by omega
    subst e
    rw [hlast]
    simp (config := { failIfUnchanged := false }) (disch := first | omega | (simp only [List.length_map, List.length_append, List.length_cons, List.length_nil, List.length_take, List.length_drop, cells_int, cells_bool, cells_agg, cells_sl, cells_clo, cells_und, wcs_len, List.length_replicate, List.length_set]; done) | (simp only [List.length_map, List.length_append, List.length_cons, List.length_nil, List.length_take, List.length_drop, cells_int, cells_bool, cells_agg, cells_sl, cells_clo, cells_und, wcs_len, List.length_replicate, List.length_set]; omega)) only [go_sem, ↓reduceIte, reduceCtorEq, Nat.reduceEqDiff, Nat.reduceAdd, Nat.reduceMul, Nat.reduceSub, Nat.reduceLeDiff, Int.reduceEq, Int.reduceLT, Int.reduceLE, Int.reduceAdd, Int.reduceSub, Int.reduceMul, Int.reduceNeg, Int.reduceToNat]
    refine wp_loop' Nat (fun i => ⟨[(1, .ptr 1 0), (4, ISS (L.map nat)), (5, .int (leastB b)), (7, .sl 1 (((retL b i).map nat).map IS) (.own 7)), (8, .int i)], [(1, ⟨[.int b.base, .int b.places, .sl 1 (b.cords.map SS) .sh, SS b.top], false⟩)], [(7, (retL b i).length)], none⟩) (fun i => i ≤ L.length) (fun i => L.length - i) 0 (by simp) (by rw [hret0]; simp (config := { failIfUnchanged := false }) (disch := first | omega | (simp only [List.length_map, List.length_append, List.length_cons, List.length_nil, List.length_take, List.length_drop, cells_int, cells_bool, cells_agg, cells_sl, cells_clo, cells_und, wcs_len, List.length_replicate, List.length_set]; done) | (simp only [List.length_map, List.length_append, List.length_cons, List.length_nil, List.length_take, List.length_drop, cells_int, cells_bool, cells_agg, cells_sl, cells_clo, cells_und, wcs_len, List.length_replicate, List.length_set]; omega)) only [go_sem, ↓reduceIte, reduceCtorEq, Nat.reduceEqDiff, Nat.reduceAdd, Nat.reduceMul, Nat.reduceSub, Nat.reduceLeDiff, Int.reduceEq, Int.reduceLT, Int.reduceLE, Int.reduceAdd, Int.reduceSub, Int.reduceMul, Int.reduceNeg, Int.reduceToNat]; simp) ?_
    intro i hi
    simp (config := { failIfUnchanged := false }) (disch := first | omega | (simp only [List.length_map, List.length_append, List.length_cons, List.length_nil, List.length_take, List.length_drop, cells_int, cells_bool, cells_agg, cells_sl, cells_clo, cells_und, wcs_len, List.length_replicate, List.length_set]; done) | (simp only [List.length_map, List.length_append, List.length_cons, List.length_nil, List.length_take, List.length_drop, cells_int, cells_bool, cells_agg, cells_sl, cells_clo, cells_und, wcs_len, List.length_replicate, List.length_set]; omega)) only [go_sem, ↓reduceIte, reduceCtorEq, Nat.reduceEqDiff, Nat.reduceAdd, Nat.reduceMul, Nat.reduceSub, Nat.reduceLeDiff, Int.reduceEq, Int.reduceLT, Int.reduceLE, Int.reduceAdd, Int.reduceSub, Int.reduceMul, Int.reduceNeg, Int.reduceToNat]
    refine wcond_dec (fun h1 => ?_) (fun h1 => ?_)
    · have hlt : i < L.length := by omega
      obtain ⟨l, hl⟩ : ∃ l, L[i]? = some l := ⟨L[i], List.getElem?_eq_getElem hlt⟩
      have e0 : L[i]?.getD default = l := by rw [hl]; rfl
      have e1 : (L.map nat)[i]?.getD default = nat l := by simp [hl]
      have hlm := hmem (List.mem_of_getElem? hl)
      have hrl := hretl i
      simp (config := { failIfUnchanged := false }) (disch := first | omega | (simp only [List.length_map, List.length_append, List.length_cons, List.length_nil, List.length_take, List.length_drop, cells_int, cells_bool, cells_agg, cells_sl, cells_clo, cells_und, wcs_len, List.length_replicate, List.length_set]; done) | (simp only [List.length_map, List.length_append, List.length_cons, List.length_nil, List.length_take, List.length_drop, cells_int, cells_bool, cells_agg, cells_sl, cells_clo, cells_und, wcs_len, List.length_replicate, List.length_set]; omega)) only [go_sem, ↓reduceIte, reduceCtorEq, Nat.reduceEqDiff, Nat.reduceAdd, Nat.reduceMul, Nat.reduceSub, Nat.reduceLeDiff, Int.reduceEq, Int.reduceLT, Int.reduceLE, Int.reduceAdd, Int.reduceSub, Int.reduceMul, Int.reduceNeg, Int.reduceToNat, e1]
      refine wcall (c107 b hv l hlm.1 hlm.2) ?_
      simp (config := { failIfUnchanged := false }) (disch := first | omega | (simp only [List.length_map, List.length_append, List.length_cons, List.length_nil, List.length_take, List.length_drop, cells_int, cells_bool, cells_agg, cells_sl, cells_clo, cells_und, wcs_len, List.length_replicate, List.length_set]; done) | (simp only [List.length_map, List.length_append, List.length_cons, List.length_nil, List.length_take, List.length_drop, cells_int, cells_bool, cells_agg, cells_sl, cells_clo, cells_und, wcs_len, List.length_replicate, List.length_set]; omega)) only [go_sem, ↓reduceIte, reduceCtorEq, Nat.reduceEqDiff, Nat.reduceAdd, Nat.reduceMul, Nat.reduceSub, Nat.reduceLeDiff, Int.reduceEq, Int.reduceLT, Int.reduceLE, Int.reduceAdd, Int.reduceSub, Int.reduceMul, Int.reduceNeg, Int.reduceToNat]
      refine wcond_dec (fun h2 => ?_) (fun h2 => ?_)
      · have hr := hret i hlt
        rw [e0, if_pos h2] at hr
        simp (config := { failIfUnchanged := false }) (disch := first | omega | (simp only [List.length_map, List.length_append, List.length_cons, List.length_nil, List.length_take, List.length_drop, cells_int, cells_bool, cells_agg, cells_sl, cells_clo, cells_und, wcs_len, List.length_replicate, List.length_set]; done) | (simp only [List.length_map, List.length_append, List.length_cons, List.length_nil, List.length_take, List.length_drop, cells_int, cells_bool, cells_agg, cells_sl, cells_clo, cells_und, wcs_len, List.length_replicate, List.length_set]; omega)) only [go_sem, ↓reduceIte, reduceCtorEq, Nat.reduceEqDiff, Nat.reduceAdd, Nat.reduceMul, Nat.reduceSub, Nat.reduceLeDiff, Int.reduceEq, Int.reduceLT, Int.reduceLE, Int.reduceAdd, Int.reduceSub, Int.reduceMul, Int.reduceNeg, Int.reduceToNat, e1]
        refine ⟨i + 1, by omega, by dsimp only; omega, ?_⟩
        dsimp only
        rw [hr]
        simp (config := { failIfUnchanged := false }) (disch := first | omega | (simp only [List.length_map, List.length_append, List.length_cons, List.length_nil, List.length_take, List.length_drop, cells_int, cells_bool, cells_agg, cells_sl, cells_clo, cells_und, wcs_len, List.length_replicate, List.length_set]; done) | (simp only [List.length_map, List.length_append, List.length_cons, List.length_nil, List.length_take, List.length_drop, cells_int, cells_bool, cells_agg, cells_sl, cells_clo, cells_und, wcs_len, List.length_replicate, List.length_set]; omega)) only [go_sem, ↓reduceIte, reduceCtorEq, Nat.reduceEqDiff, Nat.reduceAdd, Nat.reduceMul, Nat.reduceSub, Nat.reduceLeDiff, Int.reduceEq, Int.reduceLT, Int.reduceLE, Int.reduceAdd, Int.reduceSub, Int.reduceMul, Int.reduceNeg, Int.reduceToNat]
        simp
      · have hr := hret i hlt
        rw [e0, if_neg h2, List.append_nil] at hr
        simp (config := { failIfUnchanged := false }) (disch := first | omega | (simp only [List.length_map, List.length_append, List.length_cons, List.length_nil, List.length_take, List.length_drop, cells_int, cells_bool, cells_agg, cells_sl, cells_clo, cells_und, wcs_len, List.length_replicate, List.length_set]; done) | (simp only [List.length_map, List.length_append, List.length_cons, List.length_nil, List.length_take, List.length_drop, cells_int, cells_bool, cells_agg, cells_sl, cells_clo, cells_und, wcs_len, List.length_replicate, List.length_set]; omega)) only [go_sem, ↓reduceIte, reduceCtorEq, Nat.reduceEqDiff, Nat.reduceAdd, Nat.reduceMul, Nat.reduceSub, Nat.reduceLeDiff, Int.reduceEq, Int.reduceLT, Int.reduceLE, Int.reduceAdd, Int.reduceSub, Int.reduceMul, Int.reduceNeg, Int.reduceToNat]
        refine ⟨i + 1, by omega, by dsimp only; omega, ?_⟩
        dsimp only
        rw [hr]
        simp (config := { failIfUnchanged := false }) (disch := first | omega | (simp only [List.length_map, List.length_append, List.length_cons, List.length_nil, List.length_take, List.length_drop, cells_int, cells_bool, cells_agg, cells_sl, cells_clo, cells_und, wcs_len, List.length_replicate, List.length_set]; done) | (simp only [List.length_map, List.length_append, List.length_cons, List.length_nil, List.length_take, List.length_drop, cells_int, cells_bool, cells_agg, cells_sl, cells_clo, cells_und, wcs_len, List.length_replicate, List.length_set]; omega)) only [go_sem, ↓reduceIte, reduceCtorEq, Nat.reduceEqDiff, Nat.reduceAdd, Nat.reduceMul, Nat.reduceSub, Nat.reduceLeDiff, Int.reduceEq, Int.reduceLT, Int.reduceLE, Int.reduceAdd, Int.reduceSub, Int.reduceMul, Int.reduceNeg, Int.reduceToNat]
        simp
    · have e : i = L.length := by omega
      subst e
      simp (config := { failIfUnchanged := false }) (disch := first | omega | (simp only [List.length_map, List.length_append, List.length_cons, List.length_nil, List.length_take, List.length_drop, cells_int, cells_bool, cells_agg, cells_sl, cells_clo, cells_und, wcs_len, List.length_replicate, List.length_set]; done) | (simp only [List.length_map, List.length_append, List.length_cons, List.length_nil, List.length_take, List.length_drop, cells_int, cells_bool, cells_agg, cells_sl, cells_clo, cells_und, wcs_len, List.length_replicate, List.length_set]; omega)) only [go_sem, ↓reduceIte, reduceCtorEq, Nat.reduceEqDiff, Nat.reduceAdd, Nat.reduceMul, Nat.reduceSub, Nat.reduceLeDiff, Int.reduceEq, Int.reduceLT, Int.reduceLE, Int.reduceAdd, Int.reduceSub, Int.reduceMul, Int.reduceNeg, Int.reduceToNat]

theorem c24 (b : Bk) (hs : Small b) (hlen : checkB b = true → (frNs b).length < 4294967296) : Ctr Try.prog 24 [KB b] (if checkB b then .tup [.int (leastB b), .int 0] else .tup [.int 0, .int 110]) := by
  refine ctr_of_wp hmix Try.func24 m24 rfl ?_
  unfold v24
  simp (config := { failIfUnchanged := false }) (disch := first | omega | (simp only [List.length_map, List.length_append, List.length_cons, List.length_nil, List.length_take, List.length_drop, cells_int, cells_bool, cells_agg, cells_sl, cells_clo, cells_und, wcs_len, List.length_replicate, List.length_set]; done) | (simp only [List.length_map, List.length_append, List.length_cons, List.length_nil, List.length_take, List.length_drop, cells_int, cells_bool, cells_agg, cells_sl, cells_clo, cells_und, wcs_len, List.length_replicate, List.length_set]; omega)) only [go_sem, ↓reduceIte, reduceCtorEq, Nat.reduceEqDiff, Nat.reduceAdd, Nat.reduceMul, Nat.reduceSub, Nat.reduceLeDiff, Int.reduceEq, Int.reduceLT, Int.reduceLE, Int.reduceAdd, Int.reduceSub, Int.reduceMul, Int.reduceNeg, Int.reduceToNat]
  refine wcall (c50 b hs) ?_
  cases hc : checkB b with
  | false => simp (config := { failIfUnchanged := false }) (disch := first | omega | (simp only [List.length_map, List.length_append, List.length_cons, List.length_nil, List.length_take, List.length_drop, cells_int, cells_bool, cells_agg, cells_sl, cells_clo, cells_und, wcs_len, List.length_replicate, List.length_set]; done) | (simp only [List.length_map, List.length_append, List.length_cons, List.length_nil, List.length_take, List.length_drop, cells_int, cells_bool, cells_agg, cells_sl, cells_clo, cells_und, wcs_len, List.length_replicate, List.length_set]; omega)) only [go_sem, ↓reduceIte, reduceCtorEq, Nat.reduceEqDiff, Nat.reduceAdd, Nat.reduceMul, Nat.reduceSub, Nat.reduceLeDiff, Int.reduceEq, Int.reduceLT, Int.reduceLE, Int.reduceAdd, Int.reduceSub, Int.reduceMul, Int.reduceNeg, Int.reduceToNat]
  | true =>
    simp (config := { failIfUnchanged := false }) (disch := first | omega | (simp only [List.length_map, List.length_append, List.length_cons, List.length_nil, List.length_take, List.length_drop, cells_int, cells_bool, cells_agg, cells_sl, cells_clo, cells_und, wcs_len, List.length_replicate, List.length_set]; done) | (simp only [List.length_map, List.length_append, List.length_cons, List.length_nil, List.length_take, List.length_drop, cells_int, cells_bool, cells_agg, cells_sl, cells_clo, cells_und, wcs_len, List.length_replicate, List.length_set]; omega)) only [go_sem, ↓reduceIte, reduceCtorEq, Nat.reduceEqDiff, Nat.reduceAdd, Nat.reduceMul, Nat.reduceSub, Nat.reduceLeDiff, Int.reduceEq, Int.reduceLT, Int.reduceLE, Int.reduceAdd, Int.reduceSub, Int.reduceMul, Int.reduceNeg, Int.reduceToNat]
    refine wcall (c72 b (val_of_check hc) (hlen hc)) ?_
    simp (config := { failIfUnchanged := false }) (disch := first | omega | (simp only [List.length_map, List.length_append, List.length_cons, List.length_nil, List.length_take, List.length_drop, cells_int, cells_bool, cells_agg, cells_sl, cells_clo, cells_und, wcs_len, List.length_replicate, List.length_set]; done) | (simp only [List.length_map, List.length_append, List.length_cons, List.length_nil, List.length_take, List.length_drop, cells_int, cells_bool, cells_agg, cells_sl, cells_clo, cells_und, wcs_len, List.length_replicate, List.length_set]; omega)) only [go_sem, ↓reduceIte, reduceCtorEq, Nat.reduceEqDiff, Nat.reduceAdd, Nat.reduceMul, Nat.reduceSub, Nat.reduceLeDiff, Int.reduceEq, Int.reduceLT, Int.reduceLE, Int.reduceAdd, Int.reduceSub, Int.reduceMul, Int.reduceNeg, Int.reduceToNat]

end Go.Proofs.Ytkkiipjfbebipaa

/- The reference's Blame; KnotsRetie. -/
set_option linter.unusedSimpArgs false
set_option linter.unusedVariables false
set_option linter.unnecessarySimpa false
namespace Go.Proofs.Ytkkiipjfbebipaa
open Go Go.V

theorem allC_at' {b : Bk} (c : Nat) (h : c ≤ b.cords.length) : (allC b)[c]?.getD default = cordAt b c := by
  unfold allC cordAt
  split
  · next e => subst e; simp
  · next e =>
    rw [List.getElem?_append_left (by omega)]

abbrev kn1 (b : Bk) (c : Nat) (l : List Nat) : Int := isum b.places.toNat fun p => costL (cordSp b c p) (dgN b l c p : Nat)
abbrev retA (b : Bk) : List (List Nat) := retL b (frNs b).length
def blR (b : Bk) (c : Nat) : Bool := (retA b).any fun l => decide (0 < kn1 b c l)
def blL (b : Bk) (k : Nat) : List Int := ((List.range k).filter (blR b)).map fun n : Nat => (n : Int)

def blameV (b : Bk) : List Int × Int := if checkB b then if leastB b = 0 then ([], 3) else (blL b (b.cords.length + 1), 0) else ([], 110)

theorem ret_mem {b : Bk} {l : List Nat} (h : l ∈ retA b) : l ∈ frNs b ∧ costN b l = leastB b := by
  unfold retA retL at h
  rw [List.take_length] at h
  have := List.mem_filter.1 h
  simpa using this

theorem c26 (b : Bk) (hs : Small b) (hlen : checkB b = true → (frNs b).length < 4294967296) : Ctr Try.prog 26 [KB b] (.tup [IS (blameV b).1, .int (blameV b).2]) := by
  refine ctr_of_wp hmix Try.func26 m26 rfl ?_
  unfold v26 blameV
  simp (config := { failIfUnchanged := false }) (disch := first | omega | (simp only [List.length_map, List.length_append, List.length_cons, List.length_nil, List.length_take, List.length_drop, cells_int, cells_bool, cells_agg, cells_sl, cells_clo, cells_und, wcs_len, List.length_replicate, List.length_set]; done) | (simp only [List.length_map, List.length_append, List.length_cons, List.length_nil, List.length_take, List.length_drop, cells_int, cells_bool, cells_agg, cells_sl, cells_clo, cells_und, wcs_len, List.length_replicate, List.length_set]; omega)) only [go_sem, ↓reduceIte, reduceCtorEq, Nat.reduceEqDiff, Nat.reduceAdd, Nat.reduceMul, Nat.reduceSub, Nat.reduceLeDiff, Int.reduceEq, Int.reduceLT, Int.reduceLE, Int.reduceAdd, Int.reduceSub, Int.reduceMul, Int.reduceNeg, Int.reduceToNat]
  refine wcall (c50 b hs) ?_
  cases hc : checkB b with
  | false => simp (config := { failIfUnchanged := false }) (disch := first | omega | (simp only [List.length_map, List.length_append, List.length_cons, List.length_nil, List.length_take, List.length_drop, cells_int, cells_bool, cells_agg, cells_sl, cells_clo, cells_und, wcs_len, List.length_replicate, List.length_set]; done) | (simp only [List.length_map, List.length_append, List.length_cons, List.length_nil, List.length_take, List.length_drop, cells_int, cells_bool, cells_agg, cells_sl, cells_clo, cells_und, wcs_len, List.length_replicate, List.length_set]; omega)) only [go_sem, ↓reduceIte, reduceCtorEq, Nat.reduceEqDiff, Nat.reduceAdd, Nat.reduceMul, Nat.reduceSub, Nat.reduceLeDiff, Int.reduceEq, Int.reduceLT, Int.reduceLE, Int.reduceAdd, Int.reduceSub, Int.reduceMul, Int.reduceNeg, Int.reduceToNat]; rfl
  | true =>
    have hv := val_of_check hc
    have hcl := hv.hc
    have hall := allN_le hv
    simp (config := { failIfUnchanged := false }) (disch := first | omega | (simp only [List.length_map, List.length_append, List.length_cons, List.length_nil, List.length_take, List.length_drop, cells_int, cells_bool, cells_agg, cells_sl, cells_clo, cells_und, wcs_len, List.length_replicate, List.length_set]; done) | (simp only [List.length_map, List.length_append, List.length_cons, List.length_nil, List.length_take, List.length_drop, cells_int, cells_bool, cells_agg, cells_sl, cells_clo, cells_und, wcs_len, List.length_replicate, List.length_set]; omega)) only [go_sem, ↓reduceIte, reduceCtorEq, Nat.reduceEqDiff, Nat.reduceAdd, Nat.reduceMul, Nat.reduceSub, Nat.reduceLeDiff, Int.reduceEq, Int.reduceLT, Int.reduceLE, Int.reduceAdd, Int.reduceSub, Int.reduceMul, Int.reduceNeg, Int.reduceToNat]
    refine wcall (c72 b hv (hlen hc)) ?_
    simp (config := { failIfUnchanged := false }) (disch := first | omega | (simp only [List.length_map, List.length_append, List.length_cons, List.length_nil, List.length_take, List.length_drop, cells_int, cells_bool, cells_agg, cells_sl, cells_clo, cells_und, wcs_len, List.length_replicate, List.length_set]; done) | (simp only [List.length_map, List.length_append, List.length_cons, List.length_nil, List.length_take, List.length_drop, cells_int, cells_bool, cells_agg, cells_sl, cells_clo, cells_und, wcs_len, List.length_replicate, List.length_set]; omega)) only [go_sem, ↓reduceIte, reduceCtorEq, Nat.reduceEqDiff, Nat.reduceAdd, Nat.reduceMul, Nat.reduceSub, Nat.reduceLeDiff, Int.reduceEq, Int.reduceLT, Int.reduceLE, Int.reduceAdd, Int.reduceSub, Int.reduceMul, Int.reduceNeg, Int.reduceToNat]
    refine wcond_dec (fun h0 => ?_) (fun h0 => ?_)
    · simp (config := { failIfUnchanged := false }) (disch := first | omega | (simp only [List.length_map, List.length_append, List.length_cons, List.length_nil, List.length_take, List.length_drop, cells_int, cells_bool, cells_agg, cells_sl, cells_clo, cells_und, wcs_len, List.length_replicate, List.length_set]; done) | (simp only [List.length_map, List.length_append, List.length_cons, List.length_nil, List.length_take, List.length_drop, cells_int, cells_bool, cells_agg, cells_sl, cells_clo, cells_und, wcs_len, List.length_replicate, List.length_set]; omega)) only [go_sem, ↓reduceIte, reduceCtorEq, Nat.reduceEqDiff, Nat.reduceAdd, Nat.reduceMul, Nat.reduceSub, Nat.reduceLeDiff, Int.reduceEq, Int.reduceLT, Int.reduceLE, Int.reduceAdd, Int.reduceSub, Int.reduceMul, Int.reduceNeg, Int.reduceToNat, h0]
      rfl
    · simp (config := { failIfUnchanged := false }) (disch := first | omega | (simp only [List.length_map, List.length_append, List.length_cons, List.length_nil, List.length_take, List.length_drop, cells_int, cells_bool, cells_agg, cells_sl, cells_clo, cells_und, wcs_len, List.length_replicate, List.length_set]; done) | (simp only [List.length_map, List.length_append, List.length_cons, List.length_nil, List.length_take, List.length_drop, cells_int, cells_bool, cells_agg, cells_sl, cells_clo, cells_und, wcs_len, List.length_replicate, List.length_set]; omega)) only [go_sem, ↓reduceIte, reduceCtorEq, Nat.reduceEqDiff, Nat.reduceAdd, Nat.reduceMul, Nat.reduceSub, Nat.reduceLeDiff, Int.reduceEq, Int.reduceLT, Int.reduceLE, Int.reduceAdd, Int.reduceSub, Int.reduceMul, Int.reduceNeg, Int.reduceToNat, h0]
      have hmem : ∀ {l : List Nat}, l ∈ retA b → l.length = b.cords.length + 1 ∧ ∀ x ∈ l, x < allN b := fun h => fr_mem (ret_mem h).1
      have hRl : (retA b).length < 4294967296 := by
        have h1 := hlen hc
        have : (retA b).length ≤ (frNs b).length := by
          unfold retA retL
          rw [List.take_length]
          exact List.length_filter_le _ _
        omega
      have hbl : ∀ c, blL b (c + 1) = blL b c ++ if (retA b).any (fun l => decide (0 < kn1 b c l)) then [(c : Int)] else [] := by
        intro c
        unfold blL
        rw [List.range_succ, List.filter_append, List.map_append]
        congr 1
        by_cases h : blR b c = true
        · rw [List.filter_cons_of_pos (by simpa using h)]
          have h' : (retA b).any (fun l => decide (0 < kn1 b c l)) = true := h
          rw [if_pos h']
          simp
        · rw [List.filter_cons_of_neg (by simpa using h)]
          have h' : ¬ (retA b).any (fun l => decide (0 < kn1 b c l)) = true := h
          rw [if_neg h']
          simp
      have hbl0 : blL b 0 = [] := by simp [blL]
      have hbll : ∀ c, (blL b c).length ≤ c := fun c => by
        unfold blL
        rw [List.length_map]
        have := List.length_filter_le (blR b) (List.range c)
        simpa using this
      generalize hL : retA b = L at *
      refine wp_loop' Nat (fun c => ⟨[(1, .ptr 1 0), (5, ISS (L.map nat)), (7, .sl 1 ((blL b c).map .int) (.own 7)), (8, .int c)], [(1, ⟨[.int b.base, .int b.places, .sl 1 (b.cords.map SS) .sh, SS b.top], false⟩)], [(7, (blL b c).length)], none⟩) (fun c => c ≤ b.cords.length + 1) (fun c => b.cords.length + 1 - c) 0 (by simp) (by rw [hbl0]; simp (config := { failIfUnchanged := false }) (disch := first | omega | (simp only [List.length_map, List.length_append, List.length_cons, List.length_nil, List.length_take, List.length_drop, cells_int, cells_bool, cells_agg, cells_sl, cells_clo, cells_und, wcs_len, List.length_replicate, List.length_set]; done) | (simp only [List.length_map, List.length_append, List.length_cons, List.length_nil, List.length_take, List.length_drop, cells_int, cells_bool, cells_agg, cells_sl, cells_clo, cells_und, wcs_len, List.length_replicate, List.length_set]; omega)) only [go_sem, ↓reduceIte, reduceCtorEq, Nat.reduceEqDiff, Nat.reduceAdd, Nat.reduceMul, Nat.reduceSub, Nat.reduceLeDiff, Int.reduceEq, Int.reduceLT, Int.reduceLE, Int.reduceAdd, Int.reduceSub, Int.reduceMul, Int.reduceNeg, Int.reduceToNat]; simp [← hL]) ?_
      intro c hcc
      have hbc := hbll c
      simp (config := { failIfUnchanged := false }) (disch := first | omega | (simp only [List.length_map, List.length_append, List.length_cons, List.length_nil, List.length_take, List.length_drop, cells_int, cells_bool, cells_agg, cells_sl, cells_clo, cells_und, wcs_len, List.length_replicate, List.length_set]; done) | (simp only [List.length_map, List.length_append, List.length_cons, List.length_nil, List.length_take, List.length_drop, cells_int, cells_bool, cells_agg, cells_sl, cells_clo, cells_und, wcs_len, List.length_replicate, List.length_set]; omega)) only [go_sem, ↓reduceIte, reduceCtorEq, Nat.reduceEqDiff, Nat.reduceAdd, Nat.reduceMul, Nat.reduceSub, Nat.reduceLeDiff, Int.reduceEq, Int.reduceLT, Int.reduceLE, Int.reduceAdd, Int.reduceSub, Int.reduceMul, Int.reduceNeg, Int.reduceToNat]
      refine wcond_dec (fun h1 => ?_) (fun h1 => ?_)
      · have hclt : c ≤ b.cords.length := by omega
        simp (config := { failIfUnchanged := false }) (disch := first | omega | (simp only [List.length_map, List.length_append, List.length_cons, List.length_nil, List.length_take, List.length_drop, cells_int, cells_bool, cells_agg, cells_sl, cells_clo, cells_und, wcs_len, List.length_replicate, List.length_set]; done) | (simp only [List.length_map, List.length_append, List.length_cons, List.length_nil, List.length_take, List.length_drop, cells_int, cells_bool, cells_agg, cells_sl, cells_clo, cells_und, wcs_len, List.length_replicate, List.length_set]; omega)) only [go_sem, ↓reduceIte, reduceCtorEq, Nat.reduceEqDiff, Nat.reduceAdd, Nat.reduceMul, Nat.reduceSub, Nat.reduceLeDiff, Int.reduceEq, Int.reduceLT, Int.reduceLE, Int.reduceAdd, Int.reduceSub, Int.reduceMul, Int.reduceNeg, Int.reduceToNat]
        refine wp_loop' Nat (fun i => ⟨[(1, .ptr 1 0), (5, ISS (L.map nat)), (7, .sl 1 ((blL b c).map .int) (.own 7)), (8, .int c), (9, .bool ((L.take i).any fun l => decide (0 < kn1 b c l))), (10, .int i)], [(1, ⟨[.int b.base, .int b.places, .sl 1 (b.cords.map SS) .sh, SS b.top], false⟩)], [(7, (blL b c).length)], none⟩) (fun i => i ≤ L.length) (fun i => L.length - i) 0 (by simp) (by simp (config := { failIfUnchanged := false }) (disch := first | omega | (simp only [List.length_map, List.length_append, List.length_cons, List.length_nil, List.length_take, List.length_drop, cells_int, cells_bool, cells_agg, cells_sl, cells_clo, cells_und, wcs_len, List.length_replicate, List.length_set]; done) | (simp only [List.length_map, List.length_append, List.length_cons, List.length_nil, List.length_take, List.length_drop, cells_int, cells_bool, cells_agg, cells_sl, cells_clo, cells_und, wcs_len, List.length_replicate, List.length_set]; omega)) only [go_sem, ↓reduceIte, reduceCtorEq, Nat.reduceEqDiff, Nat.reduceAdd, Nat.reduceMul, Nat.reduceSub, Nat.reduceLeDiff, Int.reduceEq, Int.reduceLT, Int.reduceLE, Int.reduceAdd, Int.reduceSub, Int.reduceMul, Int.reduceNeg, Int.reduceToNat]; simp) ?_
        intro i hi
        simp (config := { failIfUnchanged := false }) (disch := first | omega | (simp only [List.length_map, List.length_append, List.length_cons, List.length_nil, List.length_take, List.length_drop, cells_int, cells_bool, cells_agg, cells_sl, cells_clo, cells_und, wcs_len, List.length_replicate, List.length_set]; done) | (simp only [List.length_map, List.length_append, List.length_cons, List.length_nil, List.length_take, List.length_drop, cells_int, cells_bool, cells_agg, cells_sl, cells_clo, cells_und, wcs_len, List.length_replicate, List.length_set]; omega)) only [go_sem, ↓reduceIte, reduceCtorEq, Nat.reduceEqDiff, Nat.reduceAdd, Nat.reduceMul, Nat.reduceSub, Nat.reduceLeDiff, Int.reduceEq, Int.reduceLT, Int.reduceLE, Int.reduceAdd, Int.reduceSub, Int.reduceMul, Int.reduceNeg, Int.reduceToNat]
        refine wcond_dec (fun h2 => ?_) (fun h2 => ?_)
        · have hlt : i < L.length := by omega
          obtain ⟨l, hl⟩ : ∃ l, L[i]? = some l := ⟨L[i], List.getElem?_eq_getElem hlt⟩
          have e0 : L[i]?.getD default = l := by rw [hl]; rfl
          have e1 : (L.map nat)[i]?.getD default = nat l := by simp [hl]
          have hlm := hmem (List.mem_of_getElem? hl)
          have hnl : (nat l).length = b.cords.length + 1 := by rw [List.length_map]; exact hlm.1
          have hxl : l[c]?.getD default < allN b := hlm.2 _ (mem_getD (by omega))
          have hsn : (L.take (i + 1)).any (fun l => decide (0 < kn1 b c l)) = ((L.take i).any (fun l => decide (0 < kn1 b c l)) || decide (0 < kn1 b c l)) := by
            rw [take_snoc hlt, List.any_append, e0]
            simp
          simp (config := { failIfUnchanged := false }) (disch := first | omega | (simp only [List.length_map, List.length_append, List.length_cons, List.length_nil, List.length_take, List.length_drop, cells_int, cells_bool, cells_agg, cells_sl, cells_clo, cells_und, wcs_len, List.length_replicate, List.length_set]; done) | (simp only [List.length_map, List.length_append, List.length_cons, List.length_nil, List.length_take, List.length_drop, cells_int, cells_bool, cells_agg, cells_sl, cells_clo, cells_und, wcs_len, List.length_replicate, List.length_set]; omega)) only [go_sem, ↓reduceIte, reduceCtorEq, Nat.reduceEqDiff, Nat.reduceAdd, Nat.reduceMul, Nat.reduceSub, Nat.reduceLeDiff, Int.reduceEq, Int.reduceLT, Int.reduceLE, Int.reduceAdd, Int.reduceSub, Int.reduceMul, Int.reduceNeg, Int.reduceToNat]
          cases ha : (L.take i).any fun l => decide (0 < kn1 b c l) with
          | true =>
            rw [ha, Bool.true_or] at hsn
            simp (config := { failIfUnchanged := false }) (disch := first | omega | (simp only [List.length_map, List.length_append, List.length_cons, List.length_nil, List.length_take, List.length_drop, cells_int, cells_bool, cells_agg, cells_sl, cells_clo, cells_und, wcs_len, List.length_replicate, List.length_set]; done) | (simp only [List.length_map, List.length_append, List.length_cons, List.length_nil, List.length_take, List.length_drop, cells_int, cells_bool, cells_agg, cells_sl, cells_clo, cells_und, wcs_len, List.length_replicate, List.length_set]; omega)) only [go_sem, ↓reduceIte, reduceCtorEq, Nat.reduceEqDiff, Nat.reduceAdd, Nat.reduceMul, Nat.reduceSub, Nat.reduceLeDiff, Int.reduceEq, Int.reduceLT, Int.reduceLE, Int.reduceAdd, Int.reduceSub, Int.reduceMul, Int.reduceNeg, Int.reduceToNat]
            refine ⟨i + 1, by omega, by dsimp only; omega, ?_⟩
            dsimp only
            rw [hsn]
            simp (config := { failIfUnchanged := false }) (disch := first | omega | (simp only [List.length_map, List.length_append, List.length_cons, List.length_nil, List.length_take, List.length_drop, cells_int, cells_bool, cells_agg, cells_sl, cells_clo, cells_und, wcs_len, List.length_replicate, List.length_set]; done) | (simp only [List.length_map, List.length_append, List.length_cons, List.length_nil, List.length_take, List.length_drop, cells_int, cells_bool, cells_agg, cells_sl, cells_clo, cells_und, wcs_len, List.length_replicate, List.length_set]; omega)) only [go_sem, ↓reduceIte, reduceCtorEq, Nat.reduceEqDiff, Nat.reduceAdd, Nat.reduceMul, Nat.reduceSub, Nat.reduceLeDiff, Int.reduceEq, Int.reduceLT, Int.reduceLE, Int.reduceAdd, Int.reduceSub, Int.reduceMul, Int.reduceNeg, Int.reduceToNat]
            simp
          | false =>
            rw [ha, Bool.false_or] at hsn
            simp (config := { failIfUnchanged := false }) (disch := first | omega | (simp only [List.length_map, List.length_append, List.length_cons, List.length_nil, List.length_take, List.length_drop, cells_int, cells_bool, cells_agg, cells_sl, cells_clo, cells_und, wcs_len, List.length_replicate, List.length_set]; done) | (simp only [List.length_map, List.length_append, List.length_cons, List.length_nil, List.length_take, List.length_drop, cells_int, cells_bool, cells_agg, cells_sl, cells_clo, cells_und, wcs_len, List.length_replicate, List.length_set]; omega)) only [go_sem, ↓reduceIte, reduceCtorEq, Nat.reduceEqDiff, Nat.reduceAdd, Nat.reduceMul, Nat.reduceSub, Nat.reduceLeDiff, Int.reduceEq, Int.reduceLT, Int.reduceLE, Int.reduceAdd, Int.reduceSub, Int.reduceMul, Int.reduceNeg, Int.reduceToNat]
            refine wcall (c32 b c hclt) ?_
            simp (config := { failIfUnchanged := false }) (disch := first | omega | (simp only [List.length_map, List.length_append, List.length_cons, List.length_nil, List.length_take, List.length_drop, cells_int, cells_bool, cells_agg, cells_sl, cells_clo, cells_und, wcs_len, List.length_replicate, List.length_set]; done) | (simp only [List.length_map, List.length_append, List.length_cons, List.length_nil, List.length_take, List.length_drop, cells_int, cells_bool, cells_agg, cells_sl, cells_clo, cells_und, wcs_len, List.length_replicate, List.length_set]; omega)) only [go_sem, ↓reduceIte, reduceCtorEq, Nat.reduceEqDiff, Nat.reduceAdd, Nat.reduceMul, Nat.reduceSub, Nat.reduceLeDiff, Int.reduceEq, Int.reduceLT, Int.reduceLE, Int.reduceAdd, Int.reduceSub, Int.reduceMul, Int.reduceNeg, Int.reduceToNat, e1, nat_get]
            refine wcall (c69 b hv (l[c]?.getD default) (by omega)) ?_
            simp (config := { failIfUnchanged := false }) (disch := first | omega | (simp only [List.length_map, List.length_append, List.length_cons, List.length_nil, List.length_take, List.length_drop, cells_int, cells_bool, cells_agg, cells_sl, cells_clo, cells_und, wcs_len, List.length_replicate, List.length_set]; done) | (simp only [List.length_map, List.length_append, List.length_cons, List.length_nil, List.length_take, List.length_drop, cells_int, cells_bool, cells_agg, cells_sl, cells_clo, cells_und, wcs_len, List.length_replicate, List.length_set]; omega)) only [go_sem, ↓reduceIte, reduceCtorEq, Nat.reduceEqDiff, Nat.reduceAdd, Nat.reduceMul, Nat.reduceSub, Nat.reduceLeDiff, Int.reduceEq, Int.reduceLT, Int.reduceLE, Int.reduceAdd, Int.reduceSub, Int.reduceMul, Int.reduceNeg, Int.reduceToNat]
            refine wcall (c75r b hv hclt l) ?_
            simp (config := { failIfUnchanged := false }) (disch := first | omega | (simp only [List.length_map, List.length_append, List.length_cons, List.length_nil, List.length_take, List.length_drop, cells_int, cells_bool, cells_agg, cells_sl, cells_clo, cells_und, wcs_len, List.length_replicate, List.length_set]; done) | (simp only [List.length_map, List.length_append, List.length_cons, List.length_nil, List.length_take, List.length_drop, cells_int, cells_bool, cells_agg, cells_sl, cells_clo, cells_und, wcs_len, List.length_replicate, List.length_set]; omega)) only [go_sem, ↓reduceIte, reduceCtorEq, Nat.reduceEqDiff, Nat.reduceAdd, Nat.reduceMul, Nat.reduceSub, Nat.reduceLeDiff, Int.reduceEq, Int.reduceLT, Int.reduceLE, Int.reduceAdd, Int.reduceSub, Int.reduceMul, Int.reduceNeg, Int.reduceToNat]
            refine ⟨i + 1, by omega, by dsimp only; omega, ?_⟩
            dsimp only
            rw [hsn]
            simp (config := { failIfUnchanged := false }) (disch := first | omega | (simp only [List.length_map, List.length_append, List.length_cons, List.length_nil, List.length_take, List.length_drop, cells_int, cells_bool, cells_agg, cells_sl, cells_clo, cells_und, wcs_len, List.length_replicate, List.length_set]; done) | (simp only [List.length_map, List.length_append, List.length_cons, List.length_nil, List.length_take, List.length_drop, cells_int, cells_bool, cells_agg, cells_sl, cells_clo, cells_und, wcs_len, List.length_replicate, List.length_set]; omega)) only [go_sem, ↓reduceIte, reduceCtorEq, Nat.reduceEqDiff, Nat.reduceAdd, Nat.reduceMul, Nat.reduceSub, Nat.reduceLeDiff, Int.reduceEq, Int.reduceLT, Int.reduceLE, Int.reduceAdd, Int.reduceSub, Int.reduceMul, Int.reduceNeg, Int.reduceToNat]
            simp
        · have e : i = L.length := by omega
          subst e
          rw [List.take_length]
          have hb := hbl c
          simp (config := { failIfUnchanged := false }) (disch := first | omega | (simp only [List.length_map, List.length_append, List.length_cons, List.length_nil, List.length_take, List.length_drop, cells_int, cells_bool, cells_agg, cells_sl, cells_clo, cells_und, wcs_len, List.length_replicate, List.length_set]; done) | (simp only [List.length_map, List.length_append, List.length_cons, List.length_nil, List.length_take, List.length_drop, cells_int, cells_bool, cells_agg, cells_sl, cells_clo, cells_und, wcs_len, List.length_replicate, List.length_set]; omega)) only [go_sem, ↓reduceIte, reduceCtorEq, Nat.reduceEqDiff, Nat.reduceAdd, Nat.reduceMul, Nat.reduceSub, Nat.reduceLeDiff, Int.reduceEq, Int.reduceLT, Int.reduceLE, Int.reduceAdd, Int.reduceSub, Int.reduceMul, Int.reduceNeg, Int.reduceToNat]
          cases ha : L.any fun l => decide (0 < kn1 b c l) with
          | true =>
            rw [ha, if_pos rfl] at hb
            simp (config := { failIfUnchanged := false }) (disch := first | omega | (simp only [List.length_map, List.length_append, List.length_cons, List.length_nil, List.length_take, List.length_drop, cells_int, cells_bool, cells_agg, cells_sl, cells_clo, cells_und, wcs_len, List.length_replicate, List.length_set]; done) | (simp only [List.length_map, List.length_append, List.length_cons, List.length_nil, List.length_take, List.length_drop, cells_int, cells_bool, cells_agg, cells_sl, cells_clo, cells_und, wcs_len, List.length_replicate, List.length_set]; omega)) only [go_sem, ↓reduceIte, reduceCtorEq, Nat.reduceEqDiff, Nat.reduceAdd, Nat.reduceMul, Nat.reduceSub, Nat.reduceLeDiff, Int.reduceEq, Int.reduceLT, Int.reduceLE, Int.reduceAdd, Int.reduceSub, Int.reduceMul, Int.reduceNeg, Int.reduceToNat]
            refine ⟨c + 1, by omega, by dsimp only; omega, ?_⟩
            dsimp only
            rw [hb]
            simp (config := { failIfUnchanged := false }) (disch := first | omega | (simp only [List.length_map, List.length_append, List.length_cons, List.length_nil, List.length_take, List.length_drop, cells_int, cells_bool, cells_agg, cells_sl, cells_clo, cells_und, wcs_len, List.length_replicate, List.length_set]; done) | (simp only [List.length_map, List.length_append, List.length_cons, List.length_nil, List.length_take, List.length_drop, cells_int, cells_bool, cells_agg, cells_sl, cells_clo, cells_und, wcs_len, List.length_replicate, List.length_set]; omega)) only [go_sem, ↓reduceIte, reduceCtorEq, Nat.reduceEqDiff, Nat.reduceAdd, Nat.reduceMul, Nat.reduceSub, Nat.reduceLeDiff, Int.reduceEq, Int.reduceLT, Int.reduceLE, Int.reduceAdd, Int.reduceSub, Int.reduceMul, Int.reduceNeg, Int.reduceToNat]
            simp
          | false =>
            rw [ha, if_neg (by simp), List.append_nil] at hb
            simp (config := { failIfUnchanged := false }) (disch := first | omega | (simp only [List.length_map, List.length_append, List.length_cons, List.length_nil, List.length_take, List.length_drop, cells_int, cells_bool, cells_agg, cells_sl, cells_clo, cells_und, wcs_len, List.length_replicate, List.length_set]; done) | (simp only [List.length_map, List.length_append, List.length_cons, List.length_nil, List.length_take, List.length_drop, cells_int, cells_bool, cells_agg, cells_sl, cells_clo, cells_und, wcs_len, List.length_replicate, List.length_set]; omega)) only [go_sem, ↓reduceIte, reduceCtorEq, Nat.reduceEqDiff, Nat.reduceAdd, Nat.reduceMul, Nat.reduceSub, Nat.reduceLeDiff, Int.reduceEq, Int.reduceLT, Int.reduceLE, Int.reduceAdd, Int.reduceSub, Int.reduceMul, Int.reduceNeg, Int.reduceToNat]
            refine ⟨c + 1, by omega, by dsimp only; omega, ?_⟩
            dsimp only
            rw [hb]
            simp (config := { failIfUnchanged := false }) (disch := first | omega | (simp only [List.length_map, List.length_append, List.length_cons, List.length_nil, List.length_take, List.length_drop, cells_int, cells_bool, cells_agg, cells_sl, cells_clo, cells_und, wcs_len, List.length_replicate, List.length_set]; done) | (simp only [List.length_map, List.length_append, List.length_cons, List.length_nil, List.length_take, List.length_drop, cells_int, cells_bool, cells_agg, cells_sl, cells_clo, cells_und, wcs_len, List.length_replicate, List.length_set]; omega)) only [go_sem, ↓reduceIte, reduceCtorEq, Nat.reduceEqDiff, Nat.reduceAdd, Nat.reduceMul, Nat.reduceSub, Nat.reduceLeDiff, Int.reduceEq, Int.reduceLT, Int.reduceLE, Int.reduceAdd, Int.reduceSub, Int.reduceMul, Int.reduceNeg, Int.reduceToNat]
            simp
      · have e : c = b.cords.length + 1 := by omega
        subst e
        simp (config := { failIfUnchanged := false }) (disch := first | omega | (simp only [List.length_map, List.length_append, List.length_cons, List.length_nil, List.length_take, List.length_drop, cells_int, cells_bool, cells_agg, cells_sl, cells_clo, cells_und, wcs_len, List.length_replicate, List.length_set]; done) | (simp only [List.length_map, List.length_append, List.length_cons, List.length_nil, List.length_take, List.length_drop, cells_int, cells_bool, cells_agg, cells_sl, cells_clo, cells_und, wcs_len, List.length_replicate, List.length_set]; omega)) only [go_sem, ↓reduceIte, reduceCtorEq, Nat.reduceEqDiff, Nat.reduceAdd, Nat.reduceMul, Nat.reduceSub, Nat.reduceLeDiff, Int.reduceEq, Int.reduceLT, Int.reduceLE, Int.reduceAdd, Int.reduceSub, Int.reduceMul, Int.reduceNeg, Int.reduceToNat]

/-! The law. -/
theorem minC_spec (b : Bk) (L : List (List Nat)) : ∀ m, m ≤ L.length → (∀ l ∈ L.take m, minC b L m ≤ costN b l) ∧ (minC b L m = costN b (L[0]?.getD default) ∨ ∃ l ∈ L.take m, costN b l = minC b L m)
  | 0, _ => ⟨by simp, .inl (by simp [minC])⟩
  | m + 1, hm => by
    obtain ⟨h1, h2⟩ := minC_spec b L m (by omega)
    have e : minC b L (m + 1) = min (minC b L m) (costN b (L[m]?.getD default)) := by
      unfold minC
      rw [take_snoc (by omega), List.foldl_append]
      rfl
    rw [e, take_snoc (show m < L.length by omega)]
    generalize L[m]?.getD default = x
    refine ⟨fun l hl => ?_, ?_⟩
    · rcases List.mem_append.1 hl with hl | hl
      · have := h1 l hl; omega
      · simp only [List.mem_singleton] at hl
        subst hl
        omega
    · rcases Int.lt_or_le (costN b x) (minC b L m) with h | h
      · exact .inr ⟨x, by simp, by omega⟩
      · rcases h2 with h2 | ⟨l, hl, h2⟩
        · exact .inl (by omega)
        · exact .inr ⟨l, by simp [hl], by omega⟩

theorem least_spec {b : Bk} (hv : Val b) : (∀ l ∈ frNs b, leastB b ≤ costN b l) ∧ ∃ l ∈ frNs b, costN b l = leastB b := by
  have hbb := hv.hb
  have h0 : 0 < allN b := Nat.pow_pos (by omega)
  obtain ⟨l0, hl0⟩ := fr_some h0 b.cords.length [] rfl
  have hpos : 0 < (frNs b).length := List.length_pos_of_mem hl0
  obtain ⟨h1, h2⟩ := minC_spec b (frNs b) _ (Nat.le_refl _)
  rw [List.take_length] at h1 h2
  refine ⟨h1, ?_⟩
  rcases h2 with h2 | ⟨l, hl, h2⟩
  · exact ⟨_, mem_getD hpos, h2.symm⟩
  · exact ⟨l, hl, h2⟩

theorem least_k {b : Bk} (hv : Val b) : (solveL b yes3 yes2).k = leastB b := by
  obtain ⟨h1, h2⟩ := solveL_k hv yes3 yes2
  obtain ⟨h3, l, hl, h4⟩ := least_spec hv
  have h5 := h1 l hl (allOK_yes b l)
  have h6 := costN_bd hv l
  rcases h2 with h2 | ⟨l', hl', _, h7⟩
  · omega
  · have := h3 l' hl'
    omega

theorem blame_iff {b : Bk} (hv : Val b) {c p d : Nat} (hc : c ≤ b.cords.length) (hp : p < b.places.toNat) : (solveL b (onlyF yes3 c p d) yes2).k = leastB b ↔ ∃ l ∈ retA b, dgN b l c p = d := by
  obtain ⟨h1, h2⟩ := solveL_k hv (onlyF yes3 c p d) yes2
  obtain ⟨h3, l0, hl0, h4⟩ := least_spec hv
  have h6 := costN_bd hv l0
  have hok : ∀ l, allOK b (onlyF yes3 c p d) yes2 l = decide (dgN b l c p = d) := fun l => by rw [allOK_only hc hp, allOK_yes, Bool.true_and]
  constructor
  · intro h
    rcases h2 with h2 | ⟨l, hl, h7, h8⟩
    · omega
    · rw [hok, decide_eq_true_eq] at h7
      refine ⟨l, ?_, h7⟩
      unfold retA retL
      rw [List.take_length]
      exact List.mem_filter.2 ⟨hl, by rw [h8, h]; simp⟩
  · rintro ⟨l, hl, h7⟩
    obtain ⟨hl1, hl2⟩ := ret_mem hl
    have h8 := h1 l hl1 (by rw [hok, h7]; simp)
    rcases h2 with h2 | ⟨l', hl', _, h9⟩
    · omega
    · have := h3 l' hl'
      omega

theorem blame_eq {b : Bk} (hv : Val b) {c : Nat} (hc : c ≤ b.cords.length) : blameC b c = blR b c := by
  have hcl := (cordAt_val hv hc).1
  have hpp := hv.hp
  have hB : 0 < b.base.toNat := by have := hv.hb; omega
  have hAt : (allC b)[c]?.getD default = cordAt b c := allC_at' c hc
  rw [Bool.eq_iff_iff]
  unfold blameC blR
  rw [hAt, List.any_eq_true, List.any_eq_true]
  constructor
  · rintro ⟨p, hp, h⟩
    obtain ⟨d, hd, h⟩ := List.any_eq_true.1 h
    have hp' : p < b.places.toNat := by have := List.mem_range.1 hp; omega
    unfold blameAt at h
    rw [hAt, Bool.and_eq_true, decide_eq_true_eq, decide_eq_true_eq, least_k hv, blame_iff hv hc hp'] at h
    obtain ⟨h1, l, hl, h2⟩ := h
    refine ⟨l, hl, ?_⟩
    rw [decide_eq_true_eq]
    have hn := isum_nonneg (n := b.places.toNat) (f := fun p => costL (cordSp b c p) (dgN b l c p : Nat)) fun _ _ => costL_nonneg _ _
    rcases Int.lt_or_le 0 (kn1 b c l) with h | h
    · exact h
    · have h0 : kn1 b c l = 0 := by unfold kn1 at h ⊢; omega
      have := (isum_eq0 fun _ _ => costL_nonneg _ _).1 h0 p hp'
      rw [h2] at this
      unfold cordSp at this
      omega
  · rintro ⟨l, hl, h⟩
    rw [decide_eq_true_eq] at h
    have : ∃ p, p < b.places.toNat ∧ costL (cordSp b c p) (dgN b l c p : Nat) ≠ 0 := by
      apply Classical.byContradiction
      intro hn
      have : kn1 b c l = 0 := (isum_eq0 fun _ _ => costL_nonneg _ _).2 fun p hp => Classical.byContradiction fun h => hn ⟨p, hp, h⟩
      omega
    obtain ⟨p, hp, h1⟩ := this
    refine ⟨p, List.mem_range.2 (by omega), List.any_eq_true.2 ⟨dgN b l c p, List.mem_range.2 (Nat.mod_lt _ hB), ?_⟩⟩
    unfold blameAt
    rw [hAt, Bool.and_eq_true, decide_eq_true_eq, decide_eq_true_eq, least_k hv, blame_iff hv hc hp]
    refine ⟨?_, l, hl, rfl⟩
    have := costL_nonneg (cordSp b c p) (dgN b l c p : Nat)
    unfold cordSp at this h1
    omega

theorem blameL_eq {b : Bk} (hv : Val b) : blameL b (b.cords.length + 1) = blL b (b.cords.length + 1) := by
  unfold blameL blL
  congr 1
  refine List.filter_congr fun c hc => ?_
  exact blame_eq hv (by have := List.mem_range.1 hc; omega)

theorem blL_none {b : Bk} (hv : Val b) : (blL b (b.cords.length + 1)).length = 0 ↔ leastB b = 0 := by
  obtain ⟨h3, l0, hl0, h4⟩ := least_spec hv
  have hl0' : l0 ∈ retA b := by
    unfold retA retL
    rw [List.take_length]
    exact List.mem_filter.2 ⟨hl0, by rw [h4]; simp⟩
  have hnn : ∀ l : List Nat, ∀ c, c < b.cords.length + 1 → 0 ≤ kn1 b c l := fun l c hc => (knotsL_bd hv (by omega) l).1
  constructor
  · intro h
    have hnil : (List.range (b.cords.length + 1)).filter (blR b) = [] := by
      unfold blL at h
      rw [List.length_map] at h
      exact List.eq_nil_of_length_eq_zero h
    have : costN b l0 = 0 := (isum_eq0 (hnn l0)).2 fun c hc => by
      have := List.filter_eq_nil_iff.1 hnil c (List.mem_range.2 hc)
      have h2 : ¬ 0 < kn1 b c l0 := fun h => this (List.any_eq_true.2 ⟨l0, hl0', by simpa using h⟩)
      have := hnn l0 c hc
      omega
    omega
  · intro h
    unfold blL
    rw [List.length_map, List.length_eq_zero_iff, List.filter_eq_nil_iff]
    intro c hc hb
    obtain ⟨l, hl, h5⟩ := List.any_eq_true.1 hb
    rw [decide_eq_true_eq] at h5
    have h6 := (ret_mem hl).2
    rw [h] at h6
    have := (isum_eq0 (hnn l)).1 h6 c (List.mem_range.1 hc)
    omega

theorem c25r (b : Bk) (hs : Small b) : Ctr Try.prog 25 [KB b] (.tup [IS (blameV b).1, .int (blameV b).2]) := by
  have := c25 b hs
  unfold blameV
  cases hc : checkB b with
  | false =>
    rw [hc] at this
    exact this
  | true =>
    have hv := val_of_check hc
    rw [blameL_eq hv, hc, if_pos rfl] at this
    rw [if_pos rfl]
    by_cases h0 : leastB b = 0
    · rw [if_pos ((blL_none hv).2 h0)] at this
      rw [if_pos h0]
      exact this
    · rw [if_neg fun h => h0 ((blL_none hv).1 h)] at this
      rw [if_neg h0]
      exact this

theorem c4 (b : Bk) (h1 : b.cords.length < 9223372036854775808) : Ctr Try.prog 4 [KB b] (.bool true) := by
  refine ctr_of_wp hmix Try.func4 m4 rfl ?_
  unfold v4
  simp (config := { failIfUnchanged := false }) (disch := first | omega | (simp only [List.length_map, List.length_append, List.length_cons, List.length_nil, List.length_take, List.length_drop, cells_int, cells_bool, cells_agg, cells_sl, cells_clo, cells_und, wcs_len, List.length_replicate, List.length_set]; done) | (simp only [List.length_map, List.length_append, List.length_cons, List.length_nil, List.length_take, List.length_drop, cells_int, cells_bool, cells_agg, cells_sl, cells_clo, cells_und, wcs_len, List.length_replicate, List.length_set]; omega)) only [go_sem, ↓reduceIte, reduceCtorEq, Nat.reduceEqDiff, Nat.reduceAdd, Nat.reduceMul, Nat.reduceSub, Nat.reduceLeDiff, Int.reduceEq, Int.reduceLT, Int.reduceLE, Int.reduceAdd, Int.reduceSub, Int.reduceMul, Int.reduceNeg, Int.reduceToNat]
  refine wcall (c22 b h1) ?_
  cases hf : wideB b with
  | true =>
    simp (config := { failIfUnchanged := false }) (disch := first | omega | (simp only [List.length_map, List.length_append, List.length_cons, List.length_nil, List.length_take, List.length_drop, cells_int, cells_bool, cells_agg, cells_sl, cells_clo, cells_und, wcs_len, List.length_replicate, List.length_set]; done) | (simp only [List.length_map, List.length_append, List.length_cons, List.length_nil, List.length_take, List.length_drop, cells_int, cells_bool, cells_agg, cells_sl, cells_clo, cells_und, wcs_len, List.length_replicate, List.length_set]; omega)) only [go_sem, ↓reduceIte, reduceCtorEq, Nat.reduceEqDiff, Nat.reduceAdd, Nat.reduceMul, Nat.reduceSub, Nat.reduceLeDiff, Int.reduceEq, Int.reduceLT, Int.reduceLE, Int.reduceAdd, Int.reduceSub, Int.reduceMul, Int.reduceNeg, Int.reduceToNat]
    refine wcall c17 ?_
    simp (config := { failIfUnchanged := false }) (disch := first | omega | (simp only [List.length_map, List.length_append, List.length_cons, List.length_nil, List.length_take, List.length_drop, cells_int, cells_bool, cells_agg, cells_sl, cells_clo, cells_und, wcs_len, List.length_replicate, List.length_set]; done) | (simp only [List.length_map, List.length_append, List.length_cons, List.length_nil, List.length_take, List.length_drop, cells_int, cells_bool, cells_agg, cells_sl, cells_clo, cells_und, wcs_len, List.length_replicate, List.length_set]; omega)) only [go_sem, ↓reduceIte, reduceCtorEq, Nat.reduceEqDiff, Nat.reduceAdd, Nat.reduceMul, Nat.reduceSub, Nat.reduceLeDiff, Int.reduceEq, Int.reduceLT, Int.reduceLE, Int.reduceAdd, Int.reduceSub, Int.reduceMul, Int.reduceNeg, Int.reduceToNat]
  | false =>
    simp only [wideB, Bool.or_eq_false_iff, Bool.and_eq_false_iff] at hf
    obtain ⟨hh, hf2⟩ := hf
    have hs := small_small hh
    obtain ⟨k1, k2, k3⟩ := small_of_huge hh
    have hlen : checkB b = true → (frNs b).length < 4294967296 := fun hc => by
      have hv := val_of_check hc
      have hw : wideP b = false := by
        rcases hf2 with h | h
        · rw [hc] at h; cases h
        · exact h
      have hbb := hv.hb
      have := wide_pow hw (Nat.pow_pos (by omega))
      have := fr_count b
      omega
    have e23 : (if checkB b then AV.tup [.int (solveL b yes3 yes2).k, .int 0] else .tup [.int 0, .int 110]) = if checkB b then .tup [.int (leastB b), .int 0] else .tup [.int 0, .int 110] := by
      cases hc : checkB b with
      | false => rfl
      | true => rw [least_k (val_of_check hc)]
    have hr : ∃ x z : Int, (if checkB b then AV.tup [.int (leastB b), .int 0] else .tup [.int 0, .int 110]) = .tup [.int x, .int z] := by
      split
      · exact ⟨_, _, rfl⟩
      · exact ⟨_, _, rfl⟩
    obtain ⟨x, z, hr⟩ := hr
    have hbl : (blameV b).1.length < 4294967296 := by
      unfold blameV
      split
      · split
        · simp
        · unfold blL
          rw [List.length_map]
          have := List.length_filter_le (blR b) (List.range (b.cords.length + 1))
          rw [List.length_range] at this
          omega
      · simp
    have d23 := c23 b hs
    have d24 := c24 b hs hlen
    rw [e23, hr] at d23
    rw [hr] at d24
    simp (config := { failIfUnchanged := false }) (disch := first | omega | (simp only [List.length_map, List.length_append, List.length_cons, List.length_nil, List.length_take, List.length_drop, cells_int, cells_bool, cells_agg, cells_sl, cells_clo, cells_und, wcs_len, List.length_replicate, List.length_set]; done) | (simp only [List.length_map, List.length_append, List.length_cons, List.length_nil, List.length_take, List.length_drop, cells_int, cells_bool, cells_agg, cells_sl, cells_clo, cells_und, wcs_len, List.length_replicate, List.length_set]; omega)) only [go_sem, ↓reduceIte, reduceCtorEq, Nat.reduceEqDiff, Nat.reduceAdd, Nat.reduceMul, Nat.reduceSub, Nat.reduceLeDiff, Int.reduceEq, Int.reduceLT, Int.reduceLE, Int.reduceAdd, Int.reduceSub, Int.reduceMul, Int.reduceNeg, Int.reduceToNat]
    refine wcall (c18 b (by omega) (by omega) (fun x hx => by have := k3 x hx; omega)) ?_
    simp (config := { failIfUnchanged := false }) (disch := first | omega | (simp only [List.length_map, List.length_append, List.length_cons, List.length_nil, List.length_take, List.length_drop, cells_int, cells_bool, cells_agg, cells_sl, cells_clo, cells_und, wcs_len, List.length_replicate, List.length_set]; done) | (simp only [List.length_map, List.length_append, List.length_cons, List.length_nil, List.length_take, List.length_drop, cells_int, cells_bool, cells_agg, cells_sl, cells_clo, cells_und, wcs_len, List.length_replicate, List.length_set]; omega)) only [go_sem, ↓reduceIte, reduceCtorEq, Nat.reduceEqDiff, Nat.reduceAdd, Nat.reduceMul, Nat.reduceSub, Nat.reduceLeDiff, Int.reduceEq, Int.reduceLT, Int.reduceLE, Int.reduceAdd, Int.reduceSub, Int.reduceMul, Int.reduceNeg, Int.reduceToNat]
    refine wcall d23 ?_
    simp (config := { failIfUnchanged := false }) (disch := first | omega | (simp only [List.length_map, List.length_append, List.length_cons, List.length_nil, List.length_take, List.length_drop, cells_int, cells_bool, cells_agg, cells_sl, cells_clo, cells_und, wcs_len, List.length_replicate, List.length_set]; done) | (simp only [List.length_map, List.length_append, List.length_cons, List.length_nil, List.length_take, List.length_drop, cells_int, cells_bool, cells_agg, cells_sl, cells_clo, cells_und, wcs_len, List.length_replicate, List.length_set]; omega)) only [go_sem, ↓reduceIte, reduceCtorEq, Nat.reduceEqDiff, Nat.reduceAdd, Nat.reduceMul, Nat.reduceSub, Nat.reduceLeDiff, Int.reduceEq, Int.reduceLT, Int.reduceLE, Int.reduceAdd, Int.reduceSub, Int.reduceMul, Int.reduceNeg, Int.reduceToNat]
    refine wcall d24 ?_
    simp (config := { failIfUnchanged := false }) (disch := first | omega | (simp only [List.length_map, List.length_append, List.length_cons, List.length_nil, List.length_take, List.length_drop, cells_int, cells_bool, cells_agg, cells_sl, cells_clo, cells_und, wcs_len, List.length_replicate, List.length_set]; done) | (simp only [List.length_map, List.length_append, List.length_cons, List.length_nil, List.length_take, List.length_drop, cells_int, cells_bool, cells_agg, cells_sl, cells_clo, cells_und, wcs_len, List.length_replicate, List.length_set]; omega)) only [go_sem, ↓reduceIte, reduceCtorEq, Nat.reduceEqDiff, Nat.reduceAdd, Nat.reduceMul, Nat.reduceSub, Nat.reduceLeDiff, Int.reduceEq, Int.reduceLT, Int.reduceLE, Int.reduceAdd, Int.reduceSub, Int.reduceMul, Int.reduceNeg, Int.reduceToNat]
    refine wcall (c25r b hs) ?_
    simp (config := { failIfUnchanged := false }) (disch := first | omega | (simp only [List.length_map, List.length_append, List.length_cons, List.length_nil, List.length_take, List.length_drop, cells_int, cells_bool, cells_agg, cells_sl, cells_clo, cells_und, wcs_len, List.length_replicate, List.length_set]; done) | (simp only [List.length_map, List.length_append, List.length_cons, List.length_nil, List.length_take, List.length_drop, cells_int, cells_bool, cells_agg, cells_sl, cells_clo, cells_und, wcs_len, List.length_replicate, List.length_set]; omega)) only [go_sem, ↓reduceIte, reduceCtorEq, Nat.reduceEqDiff, Nat.reduceAdd, Nat.reduceMul, Nat.reduceSub, Nat.reduceLeDiff, Int.reduceEq, Int.reduceLT, Int.reduceLE, Int.reduceAdd, Int.reduceSub, Int.reduceMul, Int.reduceNeg, Int.reduceToNat]
    refine wcall (c26 b hs hlen) ?_
    simp (config := { failIfUnchanged := false }) (disch := first | omega | (simp only [List.length_map, List.length_append, List.length_cons, List.length_nil, List.length_take, List.length_drop, cells_int, cells_bool, cells_agg, cells_sl, cells_clo, cells_und, wcs_len, List.length_replicate, List.length_set]; done) | (simp only [List.length_map, List.length_append, List.length_cons, List.length_nil, List.length_take, List.length_drop, cells_int, cells_bool, cells_agg, cells_sl, cells_clo, cells_und, wcs_len, List.length_replicate, List.length_set]; omega)) only [go_sem, ↓reduceIte, reduceCtorEq, Nat.reduceEqDiff, Nat.reduceAdd, Nat.reduceMul, Nat.reduceSub, Nat.reduceLeDiff, Int.reduceEq, Int.reduceLT, Int.reduceLE, Int.reduceAdd, Int.reduceSub, Int.reduceMul, Int.reduceNeg, Int.reduceToNat]
    refine wcall (c27 _ _ hbl) ?_
    simp (config := { failIfUnchanged := false }) (disch := first | omega | (simp only [List.length_map, List.length_append, List.length_cons, List.length_nil, List.length_take, List.length_drop, cells_int, cells_bool, cells_agg, cells_sl, cells_clo, cells_und, wcs_len, List.length_replicate, List.length_set]; done) | (simp only [List.length_map, List.length_append, List.length_cons, List.length_nil, List.length_take, List.length_drop, cells_int, cells_bool, cells_agg, cells_sl, cells_clo, cells_und, wcs_len, List.length_replicate, List.length_set]; omega)) only [go_sem, ↓reduceIte, reduceCtorEq, Nat.reduceEqDiff, Nat.reduceAdd, Nat.reduceMul, Nat.reduceSub, Nat.reduceLeDiff, Int.reduceEq, Int.reduceLT, Int.reduceLE, Int.reduceAdd, Int.reduceSub, Int.reduceMul, Int.reduceNeg, Int.reduceToNat]
    refine wcall (c21 b b hs) ?_
    simp (config := { failIfUnchanged := false }) (disch := first | omega | (simp only [List.length_map, List.length_append, List.length_cons, List.length_nil, List.length_take, List.length_drop, cells_int, cells_bool, cells_agg, cells_sl, cells_clo, cells_und, wcs_len, List.length_replicate, List.length_set]; done) | (simp only [List.length_map, List.length_append, List.length_cons, List.length_nil, List.length_take, List.length_drop, cells_int, cells_bool, cells_agg, cells_sl, cells_clo, cells_und, wcs_len, List.length_replicate, List.length_set]; omega)) only [go_sem, ↓reduceIte, reduceCtorEq, Nat.reduceEqDiff, Nat.reduceAdd, Nat.reduceMul, Nat.reduceSub, Nat.reduceLeDiff, Int.reduceEq, Int.reduceLT, Int.reduceLE, Int.reduceAdd, Int.reduceSub, Int.reduceMul, Int.reduceNeg, Int.reduceToNat]
    refine wcall c17 ?_
    simp (config := { failIfUnchanged := false }) (disch := first | omega | (simp only [List.length_map, List.length_append, List.length_cons, List.length_nil, List.length_take, List.length_drop, cells_int, cells_bool, cells_agg, cells_sl, cells_clo, cells_und, wcs_len, List.length_replicate, List.length_set]; done) | (simp only [List.length_map, List.length_append, List.length_cons, List.length_nil, List.length_take, List.length_drop, cells_int, cells_bool, cells_agg, cells_sl, cells_clo, cells_und, wcs_len, List.length_replicate, List.length_set]; omega)) only [go_sem, ↓reduceIte, reduceCtorEq, Nat.reduceEqDiff, Nat.reduceAdd, Nat.reduceMul, Nat.reduceSub, Nat.reduceLeDiff, Int.reduceEq, Int.reduceLT, Int.reduceLE, Int.reduceAdd, Int.reduceSub, Int.reduceMul, Int.reduceNeg, Int.reduceToNat]

end Go.Proofs.Ytkkiipjfbebipaa
