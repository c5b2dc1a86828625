/- Merged by program: T58, T59, T60, T61, T62, T63, T65, T66, T67, T68, T69, T70, T71. -/
import Derived.Test.YtkkiipjfbebipaaM5
/- Plain law for With: the right readings are the free lists that cost nothing. -/
set_option linter.unusedSimpArgs false
set_option linter.unusedVariables false
set_option linter.unnecessarySimpa false
namespace Go.Proofs.Ytkkiipjfbebipaa
open Go Go.V

/-- What With returns. -/
def withB (b : Bk) (c p : Nat) (s : Sp) : Bk :=
  if c = b.cords.length then { b with top := b.top.set p s } else { b with cords := b.cords.set c ((b.cords[c]?.getD default).set p s) }

theorem withB_base (b : Bk) (c p : Nat) (s : Sp) : (withB b c p s).base = b.base := by unfold withB; split <;> rfl
theorem withB_places (b : Bk) (c p : Nat) (s : Sp) : (withB b c p s).places = b.places := by unfold withB; split <;> rfl
theorem withB_len (b : Bk) (c p : Nat) (s : Sp) : (withB b c p s).cords.length = b.cords.length := by unfold withB; split <;> simp
theorem withB_all (b : Bk) (c p : Nat) (s : Sp) : allN (withB b c p s) = allN b := by
  unfold allN
  rw [withB_base, withB_places]

theorem withB_cord {b : Bk} {c p : Nat} {s : Sp} (hc : c ≤ b.cords.length) (e : Nat) (he : e ≤ b.cords.length) : cordAt (withB b c p s) e = if e = c then (cordAt b c).set p s else cordAt b e := by
  unfold cordAt
  rw [withB_len]
  unfold withB
  by_cases h1 : c = b.cords.length
  · rw [if_pos h1]
    by_cases h2 : e = b.cords.length
    · rw [if_pos h2, if_pos (by omega), if_pos h1]
    · rw [if_neg h2, if_neg (by omega), if_neg h2]
  · rw [if_neg h1]
    by_cases h2 : e = b.cords.length
    · rw [if_pos h2, if_neg (by omega), if_pos h2]
    · rw [if_neg h2, if_neg h2]
      by_cases h3 : e = c
      · subst h3
        rw [if_pos rfl, if_neg h2]
        simp [show e < b.cords.length by omega]
      · rw [if_neg h3]
        rw [List.getElem?_set_ne (by omega)]

theorem frees_eq {b b' : Bk} (h1 : allN b' = allN b) : ∀ (k : Nat) (first : List Nat), sumsN b' true k first = sumsN b true k first
  | 0, first => by
    unfold sumsN
    simp [h1]
  | k + 1, first => by
    unfold sumsN
    have e : (List.range (allN b')).filter (isN b' first.length true) = (List.range (allN b)).filter (isN b first.length true) := by
      rw [h1]
      exact List.filter_congr fun n _ => rfl
    rw [e]
    congr 1
    funext n
    exact frees_eq h1 k (first ++ [n])

theorem frNs_with (b : Bk) (c p : Nat) (s : Sp) : frNs (withB b c p s) = frNs b := by
  unfold frNs
  rw [withB_len]
  exact frees_eq (withB_all b c p s) _ _

/-- Whether the numbers from a cord on fit. -/
def fitFrom (b : Bk) (a k : Nat) (l : List Nat) : Bool := (List.range k).all (fun c => fitsL (cordAt b (a + c)) (tieN b.base.toNat b.places.toNat (l[a + c]?.getD default))) && fitsL b.top (tieN b.base.toNat b.places.toNat (l[a + k]?.getD default))

theorem sums_pre (b : Bk) (f : Bool) : ∀ (k : Nat) (first l : List Nat), l ∈ sumsN b f k first → ∀ c, c < first.length → l[c]? = first[c]?
  | 0, first, l, hl, c, hc => by
    unfold sumsN at hl
    split at hl
    · simp only [List.mem_singleton] at hl
      subst hl
      exact List.getElem?_append_left hc
    · simp at hl
  | k + 1, first, l, hl, c, hc => by
    unfold sumsN at hl
    obtain ⟨n, _, hl⟩ := List.mem_flatMap.1 hl
    have := sums_pre b f k (first ++ [n]) l hl c (by simp; omega)
    rw [this, List.getElem?_append_left hc]

theorem sums_filter (b : Bk) : ∀ (k : Nat) (first : List Nat), sumsN b false k first = (sumsN b true k first).filter (fitFrom b first.length k)
  | 0, first => by
    unfold sumsN
    by_cases h : first.sum < allN b
    · by_cases h2 : fitsL b.top (tieN b.base.toNat b.places.toNat first.sum) = true
      · rw [if_pos (by simp [h, h2]), if_pos (by simp [h])]
        simp [fitFrom, h2]
      · rw [if_neg (by simp [h2]), if_pos (by simp [h])]
        simp [fitFrom, h2]
    · rw [if_neg (by simp [h]), if_neg (by simp [h])]
      rfl
  | k + 1, first => by
    unfold sumsN
    rw [List.filter_flatMap]
    have e : (List.range (allN b)).filter (isN b first.length true) = List.range (allN b) := List.filter_eq_self.2 fun n _ => by simp [isN]
    rw [e]
    have key : ∀ L : List Nat, ((L.filter (isN b first.length false)).flatMap fun n => sumsN b false k (first ++ [n])) = L.flatMap fun n => (sumsN b true k (first ++ [n])).filter (fitFrom b first.length (k + 1)) := by
      intro L
      induction L with
      | nil => rfl
      | cons n r ih =>
        have hn : ∀ l ∈ sumsN b true k (first ++ [n]), l[first.length]?.getD default = n := by
          intro l hl
          rw [sums_pre b true k (first ++ [n]) l hl first.length (by simp)]
          simp
        have hf : ∀ l ∈ sumsN b true k (first ++ [n]), fitFrom b first.length (k + 1) l = (isN b first.length false n && fitFrom b (first ++ [n]).length k l) := by
          intro l hl
          unfold fitFrom
          rw [List.range_succ_eq_map, List.all_cons, List.all_map, Nat.add_zero, hn l hl, List.length_append, List.length_singleton]
          have e2 : ((fun c => fitsL (cordAt b (first.length + c)) (tieN b.base.toNat b.places.toNat (l[first.length + c]?.getD default))) ∘ Nat.succ) = fun c => fitsL (cordAt b (first.length + 1 + c)) (tieN b.base.toNat b.places.toNat (l[first.length + 1 + c]?.getD default)) := by
            funext c
            simp only [Function.comp, Nat.succ_eq_add_one]
            rw [show first.length + (c + 1) = first.length + 1 + c by omega]
          rw [e2, show first.length + (k + 1) = first.length + 1 + k by omega]
          simp [isN, Bool.and_assoc]
        rw [List.flatMap_cons, ← ih]
        by_cases h : isN b first.length false n = true
        · rw [List.filter_cons_of_pos h, List.flatMap_cons, sums_filter b k (first ++ [n])]
          congr 1
          exact List.filter_congr fun l hl => by rw [hf l hl, h, Bool.true_and]
        · rw [List.filter_cons_of_neg h]
          have : (sumsN b true k (first ++ [n])).filter (fitFrom b first.length (k + 1)) = [] := List.filter_eq_nil_iff.2 fun l hl => by
            rw [hf l hl]
            simp only [Bool.not_eq_true] at h
            rw [h]
            simp
          rw [this, List.nil_append]
    exact key _

theorem fitFrom_cost {b : Bk} (hv : Val b) (l : List Nat) : fitFrom b 0 b.cords.length l = decide (costN b l = 0) := by
  rw [Bool.eq_iff_iff, decide_eq_true_eq]
  unfold fitFrom costN
  rw [isum_eq0 fun c hc => (knotsL_bd hv (by omega) l).1, Bool.and_eq_true, List.all_eq_true]
  have htop : cordAt b b.cords.length = b.top := by
    unfold cordAt
    rw [if_pos rfl]
  constructor
  · rintro ⟨h1, h2⟩ c hc
    rw [← fits_cost hv (by omega)]
    rcases Nat.lt_or_ge c b.cords.length with h | h
    · have := h1 c (List.mem_range.2 h)
      simpa using this
    · have : c = b.cords.length := by omega
      subst this
      rw [htop]
      simpa using h2
  · intro h
    refine ⟨fun c hc => ?_, ?_⟩
    · have hc' := List.mem_range.1 hc
      have := (fits_cost hv (show c ≤ b.cords.length by omega) l).2 (h c (by omega))
      simpa using this
    · have := (fits_cost hv (Nat.le_refl b.cords.length) l).2 (h _ (by omega))
      rw [htop] at this
      simpa using this

/-- The right readings are the free lists that cost nothing. -/
theorem allNs_fr {b : Bk} (hv : Val b) : allNs b = (frNs b).filter fun l => decide (costN b l = 0) := by
  unfold allNs frNs
  rw [sums_filter]
  exact List.filter_congr fun l _ => fitFrom_cost hv l

end Go.Proofs.Ytkkiipjfbebipaa

/- Plain law for With, part 2: costs. -/
set_option linter.unusedSimpArgs false
set_option linter.unusedVariables false
set_option linter.unnecessarySimpa false
namespace Go.Proofs.Ytkkiipjfbebipaa
open Go Go.V

theorem dgN_with (b : Bk) (c p : Nat) (s : Sp) (l : List Nat) (e q : Nat) : dgN (withB b c p s) l e q = dgN b l e q := by
  unfold dgN
  rw [withB_base, withB_places]

theorem cordSp_with {b : Bk} (hv : Val b) {c p : Nat} {s : Sp} (hc : c ≤ b.cords.length) (hp : p < b.places.toNat) {e : Nat} (he : e ≤ b.cords.length) (q : Nat) :
    cordSp (withB b c p s) e q = if e = c ∧ q = p then s else cordSp b e q := by
  have h1 := (cordAt_val hv hc).1
  unfold cordSp
  rw [withB_cord hc e he]
  by_cases h : e = c
  · subst h
    rw [if_pos rfl]
    by_cases h2 : q = p
    · subst h2
      rw [if_pos ⟨rfl, rfl⟩]
      simp [show q < (cordAt b e).length by omega]
    · rw [if_neg (fun h => h2 h.2), List.getElem?_set_ne (by omega)]
  · rw [if_neg h, if_neg (fun h2 => h h2.1)]

theorem isum_upd {n i : Nat} (hi : i < n) {f g : Nat → Int} (h : ∀ j, j < n → j ≠ i → f j = g j) : isum n f + g i = isum n g + f i := by
  induction n with
  | zero => omega
  | succ n ih =>
    rw [isum_succ, isum_succ]
    rcases Nat.lt_or_ge i n with h1 | h1
    · have := ih h1 fun j hj hne => h j (by omega) hne
      have h2 := h n (by omega) (by omega)
      omega
    · have : i = n := by omega
      subst this
      have := isum_congr (n := i) (f := f) (g := g) fun j hj => h j (by omega) (by omega)
      omega

/-- What a list costs if a cluster is another span. -/
theorem costN_with {b : Bk} (hv : Val b) {c p : Nat} {s : Sp} (hc : c ≤ b.cords.length) (hp : p < b.places.toNat) (l : List Nat) :
    costN (withB b c p s) l + costL (cordSp b c p) (dgN b l c p : Nat) = costN b l + costL s (dgN b l c p : Nat) := by
  have hpl := withB_places b c p s
  have e1 : costN (withB b c p s) l = isum (b.cords.length + 1) fun e => isum b.places.toNat fun q => costL (if e = c ∧ q = p then s else cordSp b e q) (dgN b l e q : Nat) := by
    unfold costN
    rw [withB_len, hpl]
    exact isum_congr fun e he => isum_congr fun q hq => by rw [cordSp_with hv hc hp (by omega), dgN_with]
  have h1 := isum_upd (n := b.cords.length + 1) (i := c) (by omega) (f := fun e => isum b.places.toNat fun q => costL (if e = c ∧ q = p then s else cordSp b e q) (dgN b l e q : Nat)) (g := fun e => isum b.places.toNat fun q => costL (cordSp b e q) (dgN b l e q : Nat)) fun j _ hne => isum_congr fun q _ => by
    rw [if_neg fun h => hne h.1]
  have h2 := isum_upd (n := b.places.toNat) (i := p) hp (f := fun q => costL (if c = c ∧ q = p then s else cordSp b c q) (dgN b l c q : Nat)) (g := fun q => costL (cordSp b c q) (dgN b l c q : Nat)) fun j _ hne => by
    rw [if_neg fun h => hne h.2]
  simp only [and_self, if_true, true_and] at h1 h2
  rw [e1]
  unfold costN
  omega

/-- The book is still right of shape. -/
theorem val_with {b : Bk} (hv : Val b) {c p : Nat} {s : Sp} (hc : c ≤ b.cords.length) (hs : 0 ≤ s.lo ∧ s.lo ≤ s.hi ∧ s.hi < b.base) : Val (withB b c p s) := by
  have hset : ∀ l : List Sp, (∀ t ∈ l, 0 ≤ t.lo ∧ t.lo ≤ t.hi ∧ t.hi < b.base) → ∀ t ∈ l.set p s, 0 ≤ t.lo ∧ t.lo ≤ t.hi ∧ t.hi < b.base := by
    intro l hl t ht
    rcases List.mem_or_eq_of_mem_set ht with h | h
    · exact hl t h
    · subst h; exact hs
  refine ⟨by rw [withB_base]; exact hv.hb, by rw [withB_places]; exact hv.hp, by rw [withB_len]; exact hv.hc, ?_, ?_⟩
  · rw [withB_places, withB_base]
    unfold withB
    split
    · exact hv.cord
    · intro l hl
      rcases List.mem_or_eq_of_mem_set hl with h | h
      · exact hv.cord l h
      · subst h
        have hcl : c < b.cords.length := by omega
        obtain ⟨h1, h2⟩ := hv.cord _ (mem_getD hcl)
        exact ⟨by rw [List.length_set]; exact h1, hset _ h2⟩
  · rw [withB_places, withB_base]
    unfold withB
    split
    · exact ⟨by rw [List.length_set]; exact hv.top.1, hset _ hv.top.2⟩
    · exact hv.top

/-- A narrower span: fewer readings. -/
theorem allNs_with {b : Bk} (hv : Val b) {c p : Nat} {s : Sp} (hc : c ≤ b.cords.length) (hp : p < b.places.toNat) (hs : 0 ≤ s.lo ∧ s.lo ≤ s.hi ∧ s.hi < b.base)
    (hin : (cordSp b c p).lo ≤ s.lo ∧ s.hi ≤ (cordSp b c p).hi) : allNs (withB b c p s) = (allNs b).filter fun l => within (dgN b l c p : Nat) s.lo s.hi := by
  rw [allNs_fr (val_with hv hc hs), allNs_fr hv, frNs_with, List.filter_filter]
  refine List.filter_congr fun l _ => ?_
  have h := costN_with hv (s := s) hc hp l
  have n1 := costN_bd (val_with hv (p := p) (s := s) hc hs) l
  have n2 := costN_bd hv l
  have z1 := costL_zero (s := s) (d := (dgN b l c p : Nat))
  have z2 := costL_zero (s := cordSp b c p) (d := (dgN b l c p : Nat))
  have g1 := costL_nonneg s (dgN b l c p : Nat)
  have g2 := costL_nonneg (cordSp b c p) (dgN b l c p : Nat)
  have hle : costL (cordSp b c p) (dgN b l c p : Nat) ≤ costN b l := by
    have a1 := isum_upd (n := b.cords.length + 1) (i := c) (by omega) (f := fun e => if e = c then 0 else isum b.places.toNat fun q => costL (cordSp b e q) (dgN b l e q : Nat)) (g := fun e => isum b.places.toNat fun q => costL (cordSp b e q) (dgN b l e q : Nat)) fun j _ hne => by rw [if_neg hne]
    have a2 := isum_upd (n := b.places.toNat) (i := p) hp (f := fun q => if q = p then 0 else costL (cordSp b c q) (dgN b l c q : Nat)) (g := fun q => costL (cordSp b c q) (dgN b l c q : Nat)) fun j _ hne => by rw [if_neg hne]
    have a3 : 0 ≤ isum (b.cords.length + 1) fun e => if e = c then 0 else isum b.places.toNat fun q => costL (cordSp b e q) (dgN b l e q : Nat) := isum_nonneg fun e he => by
      split
      · exact Int.le_refl _
      · exact isum_nonneg fun q _ => costL_nonneg _ _
    have a4 : 0 ≤ isum b.places.toNat fun q => if q = p then 0 else costL (cordSp b c q) (dgN b l c q : Nat) := isum_nonneg fun q _ => by
      split
      · exact Int.le_refl _
      · exact costL_nonneg _ _
    simp only [if_true] at a1 a2
    unfold costN
    omega
  rw [Bool.eq_iff_iff, Bool.and_eq_true, decide_eq_true_eq, decide_eq_true_eq]
  constructor
  · intro h0
    have hs0 : costL s (dgN b l c p : Nat) = 0 := by
      have hle2 : costL (cordSp b c p) (dgN b l c p : Nat) ≤ costL s (dgN b l c p : Nat) := by unfold costL; omega
      omega
    have hw := z1.1 hs0
    refine ⟨hw, ?_⟩
    have : costL (cordSp b c p) (dgN b l c p : Nat) = 0 := by
      have hw' : s.lo ≤ (dgN b l c p : Nat) ∧ ((dgN b l c p : Nat) : Int) ≤ s.hi := by simpa [within] using hw
      unfold costL
      omega
    omega
  · rintro ⟨hw, h0⟩
    have := z1.2 hw
    omega

end Go.Proofs.Ytkkiipjfbebipaa

/- Plain law for With, part 3: what the laws say. -/
set_option linter.unusedSimpArgs false
set_option linter.unusedVariables false
set_option linter.unnecessarySimpa false
namespace Go.Proofs.Ytkkiipjfbebipaa
open Go Go.V

/-- A knot more or less: Retie is the same, or 1 less. -/
theorem least_near {b : Bk} (hv : Val b) {c p : Nat} {s : Sp} (hc : c ≤ b.cords.length) (hp : p < b.places.toNat) (hv' : Val (withB b c p s)) (h : ∀ d : Nat, costL (cordSp b c p) d - 1 ≤ costL s d ∧ costL s d ≤ costL (cordSp b c p) d) :
    leastB b - 1 ≤ leastB (withB b c p s) ∧ leastB (withB b c p s) ≤ leastB b := by
  obtain ⟨g1, l, hl, g2⟩ := least_spec hv'
  obtain ⟨g3, k, hk, g4⟩ := least_spec hv
  rw [frNs_with] at hl g1
  have a1 := g3 l hl
  have a2 := costN_with hv (s := s) hc hp l
  have a3 := h (dgN b l c p)
  have b1 := g1 k hk
  have b2 := costN_with hv (s := s) hc hp k
  have b3 := h (dgN b k c p)
  omega

theorem cost_less {s : Sp} (h : s.lo ≤ s.hi) (d : Nat) : costL s d - 1 ≤ costL ⟨s.lo - 1, s.hi⟩ d ∧ costL ⟨s.lo - 1, s.hi⟩ d ≤ costL s d := by
  unfold costL
  dsimp only
  omega

theorem cost_more {s : Sp} (h : s.lo ≤ s.hi) (d : Nat) : costL s d - 1 ≤ costL ⟨s.lo, s.hi + 1⟩ d ∧ costL ⟨s.lo, s.hi + 1⟩ d ≤ costL s d := by
  unfold costL
  dsimp only
  omega

/-- Retie is nothing just if there is a right reading. -/
theorem least_zero {b : Bk} (hv : Val b) : leastB b = 0 ↔ 0 < (allNs b).length := by
  obtain ⟨g1, l, hl, g2⟩ := least_spec hv
  rw [allNs_fr hv]
  constructor
  · intro h
    exact List.length_pos_of_mem (List.mem_filter.2 ⟨hl, by simp [g2, h]⟩)
  · intro h
    obtain ⟨k, hk⟩ := List.exists_mem_of_length_pos h
    obtain ⟨hk1, hk2⟩ := List.mem_filter.1 hk
    have := g1 k hk1
    have := costN_bd hv l
    simp only [decide_eq_true_eq] at hk2
    omega

/-- The digit at a cluster of a right reading is in its span. -/
theorem dig_in {b : Bk} (hv : Val b) {l : List Nat} (hl : l ∈ allNs b) {c p : Nat} (hc : c ≤ b.cords.length) (hp : p < b.places.toNat) : (cordSp b c p).lo ≤ ((dgN b l c p : Nat) : Int) ∧ ((dgN b l c p : Nat) : Int) ≤ (cordSp b c p).hi := by
  have hf := all_fits hl hc
  have h1 := (cordAt_val hv hc).1
  unfold fitsL at hf
  rw [List.all_eq_true] at hf
  have := hf p (by rw [List.mem_range]; omega)
  rw [tieN_at _ _ _ _ hp] at this
  simpa [within, dgN, cordSp] using this

/-- With one digit alone at a cluster. -/
theorem one_with {b : Bk} (hv : Val b) {c p d : Nat} (hc : c ≤ b.cords.length) (hp : p < b.places.toNat) (hd : (cordSp b c p).lo ≤ d ∧ (d : Int) ≤ (cordSp b c p).hi) :
    (allNs (withB b c p ⟨d, d⟩)).length = cntN b (allNs b) c p (allNs b).length d := by
  obtain ⟨h1, h2⟩ := cordAt_val hv hc
  obtain ⟨s1, s2, s3⟩ := h2 _ (mem_getD (show p < (cordAt b c).length by omega))
  have hs3 : (cordSp b c p).hi < b.base := s3
  rw [allNs_with hv hc hp ⟨by dsimp only; omega, by dsimp only; omega, by dsimp only; omega⟩ ⟨hd.1, hd.2⟩]
  unfold cntN
  rw [List.take_length, ← sumF_len, sumF_filter]
  refine sumF_congr fun l _ => ?_
  by_cases h : dgN b l c p = d
  · rw [if_pos h, if_pos (by rw [h]; simp [within])]
  · rw [if_neg h, if_neg (by simp [within]; omega)]

end Go.Proofs.Ytkkiipjfbebipaa

/- With: a book in which one cluster is another span. -/
set_option linter.unusedSimpArgs false
set_option linter.unusedVariables false
set_option linter.unnecessarySimpa false
namespace Go.Proofs.Ytkkiipjfbebipaa
open Go Go.V

@[simp] theorem flat_len (l : List Sp) : (flat (l.map SP)).length = l.length * 2 := by
  rw [flat_length (sz := 2)]
  · simp
  · intro e he
    obtain ⟨s, _, rfl⟩ := List.mem_map.1 he
    rfl

theorem setAt_flat (l : List Sp) (p : Nat) (a c : Int) (h : p < l.length) : setAt (flat (l.map SP)) (p * 2) [.int a, .int c] = flat ((l.set p ⟨a, c⟩).map SP) := by
  induction l generalizing p with
  | nil => simp at h
  | cons s r ih =>
    cases p with
    | zero => rfl
    | succ p =>
      simp only [List.map_cons, flat, cells_agg, List.set_cons_succ]
      have := ih p (by simpa using h)
      rw [show (p + 1) * 2 = p * 2 + 1 + 1 by omega]
      simp only [List.cons_append, List.nil_append, setAt]
      rw [this]

theorem chunks_flat (l : List Sp) (pre : List AV) (k : Nat) (hk : k = l.length) : chunks true 2 (pre ++ flat (l.map SP)) pre.length k = l.map SP := by
  subst hk
  induction l generalizing pre with
  | nil => rfl
  | cons s r ih =>
    simp only [List.length_cons, chunks, List.map_cons, flat, cells_agg]
    congr 1
    · simp [chunk]
    · have := ih (pre ++ [.int s.lo, .int s.hi])
      simp only [List.append_assoc, List.length_append, List.length_cons, List.length_nil] at this
      exact this

theorem chunks_flat0 (l : List Sp) (k : Nat) (hk : k = l.length) : chunks true 2 (flat (l.map SP)) 0 k = l.map SP := chunks_flat l [] k hk

theorem map_tidy_flat (l : List Sp) (hp : HpL) : (flat (l.map SP)).map (tidy hp) = flat (l.map SP) := by
  induction l with
  | nil => rfl
  | cons s r ih => simp only [List.map_cons, flat, cells_agg, List.map_append, List.map_nil, tidy_int, ih]

theorem map_strip_flat (l : List Sp) (hp : HpL) : (flat (l.map SP)).map (strip hp) = flat (l.map SP) := by
  induction l with
  | nil => rfl
  | cons s r ih => simp only [List.map_cons, flat, cells_agg, List.map_append, List.map_nil, strip_int, ih]

/-- The rows that are copied. -/
def rowsC (cords : List (List Sp)) : Nat → HpL
  | 0 => []
  | i + 1 => (K 2 i 0, ⟨flat ((cords[i]?.getD default).map SP), false⟩) :: rowsC cords i

def cellsC (cords : List (List Sp)) : Nat → List AV
  | 0 => []
  | i + 1 => cellsC cords i ++ [.gsl 2 i 0 2 (cords[i]?.getD default).length true]

def restC (cords : List (List Sp)) : Nat → HpL
  | 0 => []
  | i + 1 => (K 3 0 i, ⟨cellsC cords (i + 1), false⟩) :: rowsC cords (i + 1)

def ccC : Nat → AV
  | 0 => .sl 1 [] .full
  | i + 1 => .gsl 3 0 i 1 (i + 1) false

theorem scopes_flat (l : List Sp) (τ : AS) : scopes τ (flat (l.map SP)) = True := by
  induction l with
  | nil => rfl
  | cons s r ih => simp only [List.map_cons, flat, cells_agg, List.cons_append, List.nil_append, scopes, inS_int, ih, and_self]

theorem bids_flat (l : List Sp) : bids (flat (l.map SP)) = [] := by
  induction l with
  | nil => rfl
  | cons s r ih => simp only [List.map_cons, flat, cells_agg, List.cons_append, List.nil_append, bids, bid_int, ih]

attribute [go_sem] flat_len map_tidy_flat map_strip_flat scopes_flat bids_flat

end Go.Proofs.Ytkkiipjfbebipaa

/- With: a book in which one cluster is another span: the walk. -/
set_option linter.unusedSimpArgs false
set_option linter.unusedVariables false
set_option linter.unnecessarySimpa false
namespace Go.Proofs.Ytkkiipjfbebipaa
open Go Go.V

/-- The state at the head of Copy's loop. -/
def stC (base places : Int) (cords : List (List Sp)) (top : List Sp) (hp0 : HpL) (i : Nat) : AS :=
  ⟨[(1, .ptr 4001 0), (2, .ptr 4002 0), (3, .ptr 4003 0), (4, .int (i : Nat))],
   (4003, ⟨[.int base, .int places, ccC i, .gsl 1 0 0 2 top.length true], false⟩) :: (4002, ⟨[.int 0, .int 0, .sl 1 [] .full, .sl 2 [] .full], false⟩) :: (4001, ⟨[.int base, .int places, .sl 1 (cords.map SS) .sh, SS top], false⟩) ::
   (K 1 0 0, ⟨flat (top.map SP), false⟩) :: (hp0 ++ restC cords i), [], none⟩

theorem exL0 {l : List (List Sp)} (h : l.length = 0) : l = [] := List.eq_nil_of_length_eq_zero h
theorem exL1 {l : List (List Sp)} (h : l.length = 1) : ∃ l0, l = [l0] := by
  match l, h with
  | [a0], _ => exact ⟨a0, rfl⟩
theorem exL2 {l : List (List Sp)} (h : l.length = 2) : ∃ l0 l1, l = [l0, l1] := by
  match l, h with
  | [a0, a1], _ => exact ⟨a0, a1, rfl⟩
theorem exL3 {l : List (List Sp)} (h : l.length = 3) : ∃ l0 l1 l2, l = [l0, l1, l2] := by
  match l, h with
  | [a0, a1, a2], _ => exact ⟨a0, a1, a2, rfl⟩
theorem exL4 {l : List (List Sp)} (h : l.length = 4) : ∃ l0 l1 l2 l3, l = [l0, l1, l2, l3] := by
  match l, h with
  | [a0, a1, a2, a3], _ => exact ⟨a0, a1, a2, a3, rfl⟩

theorem c33 (base places : Int) (cords : List (List Sp)) (top : List Sp) (c p : Nat) (s : Sp) (hpl : 0 ≤ places ∧ places ≤ 4) (h4 : cords.length ≤ 4) (hr : ∀ l ∈ cords, (l.length : Int) = places) (ht : (top.length : Int) = places) (hc : c ≤ cords.length) (hp : (p : Int) < places) :
    Ctr Try.prog 33 [KB ⟨base, places, cords, top⟩, .int c, .int p, SP s] (KB (withB ⟨base, places, cords, top⟩ c p s)) := by
  have hrow : ∀ i, i < cords.length → ((cords[i]?.getD default).length : Int) = places := fun i hi => hr _ (mem_getD hi)
  refine ctr_of_wp hmix Try.func33 m33g rfl ?_
  unfold v33g
  simp -failIfUnchanged (disch := first | omega | (simp [wcs_len] <;> omega) | fail) only [go_sem, simprocAttr]
  refine wcall_in hmix Try.func18 m18g rfl ?_
  unfold v18g
  simp -failIfUnchanged (disch := first | omega | (simp [wcs_len] <;> omega) | fail) only [go_sem, simprocAttr]
  refine wp_loopX Nat (stC base places cords top [(4, ⟨[.int base, .int places, .sl 1 (cords.map SS) .sh, SS top], false⟩), (7, ⟨[.int s.lo, .int s.hi], false⟩), (8, ⟨[.int 0, .int 0, .sl 1 [] .full, .sl 2 [] .full], false⟩)]) (fun i => i ≤ cords.length) (fun i => cords.length - i) 0 (by simp) (by unfold stC restC ccC; simp -failIfUnchanged (disch := first | omega | (simp [wcs_len] <;> omega) | fail) only [go_sem, simprocAttr]; try simp) (fun i => by unfold stC; simp -failIfUnchanged (disch := first | omega | (simp [wcs_len] <;> omega) | fail) only [go_sem, simprocAttr]; try simp) ?_
  generalize hS : stC base places cords top [(4, ⟨[.int base, .int places, .sl 1 (cords.map SS) .sh, SS top], false⟩), (7, ⟨[.int s.lo, .int s.hi], false⟩), (8, ⟨[.int 0, .int 0, .sl 1 [] .full, .sl 2 [] .full], false⟩)] = S
  have hSi := fun i => congrFun hS i
  intro i hi
  have h9 : i = 0 ∨ i = 1 ∨ i = 2 ∨ i = 3 ∨ i = 4 := by omega
  rcases h9 with rfl | rfl | rfl | rfl | rfl
  · have hs := hSi 0
    simp only [stC, restC, ccC, cellsC, rowsC, List.cons_append, List.nil_append] at hs
    rw [← hs]
    simp -failIfUnchanged (disch := first | omega | (simp [wcs_len] <;> omega) | fail) only [go_sem, simprocAttr]
    refine wcond_dec (fun h => ?_) (fun h => ?_)
    · have hlt : 0 < cords.length := by omega
      have hr0 := hrow 0 hlt
      simp -failIfUnchanged (disch := first | omega | (simp [wcs_len] <;> omega) | fail) only [go_sem, simprocAttr]
      refine lpx_norm ⟨1, by omega, by omega, ?_⟩
      have ht := hSi 1
      simp only [stC, restC, ccC, cellsC, rowsC, List.cons_append, List.nil_append] at ht
      rw [← ht]
      simp -failIfUnchanged (disch := first | omega | (simp [wcs_len] <;> omega) | fail) only [go_sem, simprocAttr]
      try simp
    · have hcl : cords.length = 0 := by omega
      clear hS hSi hs
      simp -failIfUnchanged (disch := first | omega | (simp [wcs_len] <;> omega) | fail) only [go_sem, simprocAttr]
      refine wcond_dec (fun h2 => ?_) (fun h2 => ?_)
      · simp -failIfUnchanged (disch := first | omega | (simp [wcs_len] <;> omega) | fail) only [go_sem, simprocAttr]
        rw [setAt_flat _ _ _ _ (by omega)]
        refine wopsN [K 1 0 0] ?_
        simp -failIfUnchanged (disch := first | omega | (simp [wcs_len] <;> omega) | fail) only [go_sem, simprocAttr, Nat.le_refl, List.length_set]
        obtain rfl : c = 0 := by omega
        obtain rfl := exL0 hcl
        simp [-List.map_set, withB, chunks, chunk, chunks_flat0]
      · omega
  · have hs := hSi 1
    simp only [stC, restC, ccC, cellsC, rowsC, List.cons_append, List.nil_append] at hs
    rw [← hs]
    simp -failIfUnchanged (disch := first | omega | (simp [wcs_len] <;> omega) | fail) only [go_sem, simprocAttr]
    refine wcond_dec (fun h => ?_) (fun h => ?_)
    · have hlt : 1 < cords.length := by omega
      have hr0 := hrow 1 hlt
      simp -failIfUnchanged (disch := first | omega | (simp [wcs_len] <;> omega) | fail) only [go_sem, simprocAttr]
      refine lpx_norm ⟨2, by omega, by omega, ?_⟩
      have ht := hSi 2
      simp only [stC, restC, ccC, cellsC, rowsC, List.cons_append, List.nil_append] at ht
      rw [← ht]
      simp -failIfUnchanged (disch := first | omega | (simp [wcs_len] <;> omega) | fail) only [go_sem, simprocAttr]
      try simp
    · have hcl : cords.length = 1 := by omega
      clear hS hSi hs
      simp -failIfUnchanged (disch := first | omega | (simp [wcs_len] <;> omega) | fail) only [go_sem, simprocAttr]
      refine wcond_dec (fun h2 => ?_) (fun h2 => ?_)
      · simp -failIfUnchanged (disch := first | omega | (simp [wcs_len] <;> omega) | fail) only [go_sem, simprocAttr]
        rw [setAt_flat _ _ _ _ (by omega)]
        refine wopsN [K 1 0 0, K 2 0 0, K 3 0 0] ?_
        simp -failIfUnchanged (disch := first | omega | (simp [wcs_len] <;> omega) | fail) only [go_sem, simprocAttr, Nat.le_refl, List.length_set]
        obtain rfl : c = 1 := by omega
        obtain ⟨l0, rfl⟩ := exL1 hcl
        simp [-List.map_set, withB, chunks, chunk, chunks_flat0]
      · have hcj : c = 0 := by omega
        rcases hcj with rfl
        · have hr0 := hrow 0 (by omega)
          simp -failIfUnchanged (disch := first | omega | (simp [wcs_len] <;> omega) | fail) only [go_sem, simprocAttr]
          rw [setAt_flat _ _ _ _ (by omega)]
          refine wopsN [K 1 0 0, K 2 0 0, K 3 0 0] ?_
          simp -failIfUnchanged (disch := first | omega | (simp [wcs_len] <;> omega) | fail) only [go_sem, simprocAttr, Nat.le_refl, List.length_set]
          obtain ⟨l0, rfl⟩ := exL1 hcl
          simp [-List.map_set, withB, chunks, chunk, chunks_flat0]
  · have hs := hSi 2
    simp only [stC, restC, ccC, cellsC, rowsC, List.cons_append, List.nil_append] at hs
    rw [← hs]
    simp -failIfUnchanged (disch := first | omega | (simp [wcs_len] <;> omega) | fail) only [go_sem, simprocAttr]
    refine wcond_dec (fun h => ?_) (fun h => ?_)
    · have hlt : 2 < cords.length := by omega
      have hr0 := hrow 2 hlt
      simp -failIfUnchanged (disch := first | omega | (simp [wcs_len] <;> omega) | fail) only [go_sem, simprocAttr]
      refine lpx_norm ⟨3, by omega, by omega, ?_⟩
      have ht := hSi 3
      simp only [stC, restC, ccC, cellsC, rowsC, List.cons_append, List.nil_append] at ht
      rw [← ht]
      simp -failIfUnchanged (disch := first | omega | (simp [wcs_len] <;> omega) | fail) only [go_sem, simprocAttr]
      try simp
    · have hcl : cords.length = 2 := by omega
      clear hS hSi hs
      simp -failIfUnchanged (disch := first | omega | (simp [wcs_len] <;> omega) | fail) only [go_sem, simprocAttr]
      refine wcond_dec (fun h2 => ?_) (fun h2 => ?_)
      · simp -failIfUnchanged (disch := first | omega | (simp [wcs_len] <;> omega) | fail) only [go_sem, simprocAttr]
        rw [setAt_flat _ _ _ _ (by omega)]
        refine wopsN [K 1 0 0, K 2 0 0, K 2 1 0, K 3 0 1] ?_
        simp -failIfUnchanged (disch := first | omega | (simp [wcs_len] <;> omega) | fail) only [go_sem, simprocAttr, Nat.le_refl, List.length_set]
        obtain rfl : c = 2 := by omega
        obtain ⟨l0, l1, rfl⟩ := exL2 hcl
        simp [-List.map_set, withB, chunks, chunk, chunks_flat0]
      · have hcj : c = 0 ∨ c = 1 := by omega
        rcases hcj with rfl | rfl
        · have hr0 := hrow 0 (by omega)
          simp -failIfUnchanged (disch := first | omega | (simp [wcs_len] <;> omega) | fail) only [go_sem, simprocAttr]
          rw [setAt_flat _ _ _ _ (by omega)]
          refine wopsN [K 1 0 0, K 2 0 0, K 2 1 0, K 3 0 1] ?_
          simp -failIfUnchanged (disch := first | omega | (simp [wcs_len] <;> omega) | fail) only [go_sem, simprocAttr, Nat.le_refl, List.length_set]
          obtain ⟨l0, l1, rfl⟩ := exL2 hcl
          simp [-List.map_set, withB, chunks, chunk, chunks_flat0]
        · have hr0 := hrow 1 (by omega)
          simp -failIfUnchanged (disch := first | omega | (simp [wcs_len] <;> omega) | fail) only [go_sem, simprocAttr]
          rw [setAt_flat _ _ _ _ (by omega)]
          refine wopsN [K 1 0 0, K 2 0 0, K 2 1 0, K 3 0 1] ?_
          simp -failIfUnchanged (disch := first | omega | (simp [wcs_len] <;> omega) | fail) only [go_sem, simprocAttr, Nat.le_refl, List.length_set]
          obtain ⟨l0, l1, rfl⟩ := exL2 hcl
          simp [-List.map_set, withB, chunks, chunk, chunks_flat0]
  · have hs := hSi 3
    simp only [stC, restC, ccC, cellsC, rowsC, List.cons_append, List.nil_append] at hs
    rw [← hs]
    simp -failIfUnchanged (disch := first | omega | (simp [wcs_len] <;> omega) | fail) only [go_sem, simprocAttr]
    refine wcond_dec (fun h => ?_) (fun h => ?_)
    · have hlt : 3 < cords.length := by omega
      have hr0 := hrow 3 hlt
      simp -failIfUnchanged (disch := first | omega | (simp [wcs_len] <;> omega) | fail) only [go_sem, simprocAttr]
      refine lpx_norm ⟨4, by omega, by omega, ?_⟩
      have ht := hSi 4
      simp only [stC, restC, ccC, cellsC, rowsC, List.cons_append, List.nil_append] at ht
      rw [← ht]
      simp -failIfUnchanged (disch := first | omega | (simp [wcs_len] <;> omega) | fail) only [go_sem, simprocAttr]
      try simp
    · have hcl : cords.length = 3 := by omega
      clear hS hSi hs
      simp -failIfUnchanged (disch := first | omega | (simp [wcs_len] <;> omega) | fail) only [go_sem, simprocAttr]
      refine wcond_dec (fun h2 => ?_) (fun h2 => ?_)
      · simp -failIfUnchanged (disch := first | omega | (simp [wcs_len] <;> omega) | fail) only [go_sem, simprocAttr]
        rw [setAt_flat _ _ _ _ (by omega)]
        refine wopsN [K 1 0 0, K 2 0 0, K 2 1 0, K 2 2 0, K 3 0 2] ?_
        simp -failIfUnchanged (disch := first | omega | (simp [wcs_len] <;> omega) | fail) only [go_sem, simprocAttr, Nat.le_refl, List.length_set]
        obtain rfl : c = 3 := by omega
        obtain ⟨l0, l1, l2, rfl⟩ := exL3 hcl
        simp [-List.map_set, withB, chunks, chunk, chunks_flat0]
      · have hcj : c = 0 ∨ c = 1 ∨ c = 2 := by omega
        rcases hcj with rfl | rfl | rfl
        · have hr0 := hrow 0 (by omega)
          simp -failIfUnchanged (disch := first | omega | (simp [wcs_len] <;> omega) | fail) only [go_sem, simprocAttr]
          rw [setAt_flat _ _ _ _ (by omega)]
          refine wopsN [K 1 0 0, K 2 0 0, K 2 1 0, K 2 2 0, K 3 0 2] ?_
          simp -failIfUnchanged (disch := first | omega | (simp [wcs_len] <;> omega) | fail) only [go_sem, simprocAttr, Nat.le_refl, List.length_set]
          obtain ⟨l0, l1, l2, rfl⟩ := exL3 hcl
          simp [-List.map_set, withB, chunks, chunk, chunks_flat0]
        · have hr0 := hrow 1 (by omega)
          simp -failIfUnchanged (disch := first | omega | (simp [wcs_len] <;> omega) | fail) only [go_sem, simprocAttr]
          rw [setAt_flat _ _ _ _ (by omega)]
          refine wopsN [K 1 0 0, K 2 0 0, K 2 1 0, K 2 2 0, K 3 0 2] ?_
          simp -failIfUnchanged (disch := first | omega | (simp [wcs_len] <;> omega) | fail) only [go_sem, simprocAttr, Nat.le_refl, List.length_set]
          obtain ⟨l0, l1, l2, rfl⟩ := exL3 hcl
          simp [-List.map_set, withB, chunks, chunk, chunks_flat0]
        · have hr0 := hrow 2 (by omega)
          simp -failIfUnchanged (disch := first | omega | (simp [wcs_len] <;> omega) | fail) only [go_sem, simprocAttr]
          rw [setAt_flat _ _ _ _ (by omega)]
          refine wopsN [K 1 0 0, K 2 0 0, K 2 1 0, K 2 2 0, K 3 0 2] ?_
          simp -failIfUnchanged (disch := first | omega | (simp [wcs_len] <;> omega) | fail) only [go_sem, simprocAttr, Nat.le_refl, List.length_set]
          obtain ⟨l0, l1, l2, rfl⟩ := exL3 hcl
          simp [-List.map_set, withB, chunks, chunk, chunks_flat0]
  · have hs := hSi 4
    simp only [stC, restC, ccC, cellsC, rowsC, List.cons_append, List.nil_append] at hs
    rw [← hs]
    simp -failIfUnchanged (disch := first | omega | (simp [wcs_len] <;> omega) | fail) only [go_sem, simprocAttr]
    refine wcond_dec (fun h => ?_) (fun h => ?_)
    · omega
    · have hcl : cords.length = 4 := by omega
      clear hS hSi hs
      simp -failIfUnchanged (disch := first | omega | (simp [wcs_len] <;> omega) | fail) only [go_sem, simprocAttr]
      refine wcond_dec (fun h2 => ?_) (fun h2 => ?_)
      · simp -failIfUnchanged (disch := first | omega | (simp [wcs_len] <;> omega) | fail) only [go_sem, simprocAttr]
        rw [setAt_flat _ _ _ _ (by omega)]
        refine wopsN [K 1 0 0, K 2 0 0, K 2 1 0, K 2 2 0, K 2 3 0, K 3 0 3] ?_
        simp -failIfUnchanged (disch := first | omega | (simp [wcs_len] <;> omega) | fail) only [go_sem, simprocAttr, Nat.le_refl, List.length_set]
        obtain rfl : c = 4 := by omega
        obtain ⟨l0, l1, l2, l3, rfl⟩ := exL4 hcl
        simp [-List.map_set, withB, chunks, chunk, chunks_flat0]
      · have hcj : c = 0 ∨ c = 1 ∨ c = 2 ∨ c = 3 := by omega
        rcases hcj with rfl | rfl | rfl | rfl
        · have hr0 := hrow 0 (by omega)
          simp -failIfUnchanged (disch := first | omega | (simp [wcs_len] <;> omega) | fail) only [go_sem, simprocAttr]
          rw [setAt_flat _ _ _ _ (by omega)]
          refine wopsN [K 1 0 0, K 2 0 0, K 2 1 0, K 2 2 0, K 2 3 0, K 3 0 3] ?_
          simp -failIfUnchanged (disch := first | omega | (simp [wcs_len] <;> omega) | fail) only [go_sem, simprocAttr, Nat.le_refl, List.length_set]
          obtain ⟨l0, l1, l2, l3, rfl⟩ := exL4 hcl
          simp [-List.map_set, withB, chunks, chunk, chunks_flat0]
        · have hr0 := hrow 1 (by omega)
          simp -failIfUnchanged (disch := first | omega | (simp [wcs_len] <;> omega) | fail) only [go_sem, simprocAttr]
          rw [setAt_flat _ _ _ _ (by omega)]
          refine wopsN [K 1 0 0, K 2 0 0, K 2 1 0, K 2 2 0, K 2 3 0, K 3 0 3] ?_
          simp -failIfUnchanged (disch := first | omega | (simp [wcs_len] <;> omega) | fail) only [go_sem, simprocAttr, Nat.le_refl, List.length_set]
          obtain ⟨l0, l1, l2, l3, rfl⟩ := exL4 hcl
          simp [-List.map_set, withB, chunks, chunk, chunks_flat0]
        · have hr0 := hrow 2 (by omega)
          simp -failIfUnchanged (disch := first | omega | (simp [wcs_len] <;> omega) | fail) only [go_sem, simprocAttr]
          rw [setAt_flat _ _ _ _ (by omega)]
          refine wopsN [K 1 0 0, K 2 0 0, K 2 1 0, K 2 2 0, K 2 3 0, K 3 0 3] ?_
          simp -failIfUnchanged (disch := first | omega | (simp [wcs_len] <;> omega) | fail) only [go_sem, simprocAttr, Nat.le_refl, List.length_set]
          obtain ⟨l0, l1, l2, l3, rfl⟩ := exL4 hcl
          simp [-List.map_set, withB, chunks, chunk, chunks_flat0]
        · have hr0 := hrow 3 (by omega)
          simp -failIfUnchanged (disch := first | omega | (simp [wcs_len] <;> omega) | fail) only [go_sem, simprocAttr]
          rw [setAt_flat _ _ _ _ (by omega)]
          refine wopsN [K 1 0 0, K 2 0 0, K 2 1 0, K 2 2 0, K 2 3 0, K 3 0 3] ?_
          simp -failIfUnchanged (disch := first | omega | (simp [wcs_len] <;> omega) | fail) only [go_sem, simprocAttr, Nat.le_refl, List.length_set]
          obtain ⟨l0, l1, l2, l3, rfl⟩ := exL4 hcl
          simp [-List.map_set, withB, chunks, chunk, chunks_flat0]

end Go.Proofs.Ytkkiipjfbebipaa

/- With: what the laws with it share. -/
set_option linter.unusedSimpArgs false
set_option linter.unusedVariables false
set_option linter.unnecessarySimpa false
namespace Go.Proofs.Ytkkiipjfbebipaa
open Go Go.V

theorem check_of_val {b : Bk} (hv : Val b) : checkB b = true := by
  obtain ⟨h1, h2, h3, h4, h5, h6⟩ := hv
  have key : ∀ l : List Sp, (l.length : Int) = b.places → (∀ s ∈ l, 0 ≤ s.lo ∧ s.lo ≤ s.hi ∧ s.hi < b.base) → isCordB b l = true := by
    intro l hl hs
    simp only [isCordB, hl, decide_true, Bool.true_and, Bool.not_eq_true', List.any_eq_false]
    intro s hs'
    have := hs s hs'
    simp only [badS, within, Bool.or_eq_true, Bool.not_eq_true', decide_eq_false_iff_not, decide_eq_true_eq, not_or, Decidable.not_not]
    omega
  simp only [checkB, within, Bool.and_eq_true, decide_eq_true_eq, Bool.not_eq_true', List.any_eq_false]
  refine ⟨h1, h2, by omega, fun l hl => ?_, key b.top h5 h6⟩
  simp [key l (h4 l hl).1 (h4 l hl).2]

theorem c33r (b : Bk) (hv : Val b) (c p : Nat) (s : Sp) (hc : c ≤ b.cords.length) (hp : p < b.places.toNat) : Ctr Try.prog 33 [KB b, .int c, .int p, SP s] (KB (withB b c p s)) := by
  obtain ⟨base, places, cords, top⟩ := b
  have h2 := hv.hp
  exact c33 base places cords top c p s (by dsimp only at h2; omega) hv.hc (fun l hl => (hv.cord l hl).1) hv.top.1 hc (by dsimp only at hp h2 ⊢; omega)

theorem small_with {b : Bk} (hv : Val b) (c p : Nat) (s : Sp) : Small (withB b c p s) := by
  have h1 := hv.hc
  have h2 := hv.hp
  have h3 := hv.top.1
  refine small_small ?_
  have hl : ∀ l ∈ (withB b c p s).cords, l.length ≤ 40 := by
    intro l hl
    unfold withB at hl
    split at hl
    · have := (hv.cord l hl).1; omega
    · rcases List.mem_or_eq_of_mem_set hl with h | h
      · have := (hv.cord l h).1; omega
      · subst h
        rw [List.length_set]
        rcases Nat.lt_or_ge c b.cords.length with hc | hc
        · have := (hv.cord _ (mem_getD hc)).1; omega
        · rw [List.getElem?_eq_none hc]; simp; exact Nat.zero_le _
  have ht : (withB b c p s).top.length ≤ 40 := by
    unfold withB
    split
    · simp only [List.length_set]; omega
    · simp only; omega
  have hn := withB_len b c p s
  simp only [hugeB, Bool.or_eq_false_iff, decide_eq_false_iff_not, List.any_eq_false, decide_eq_true_eq]
  refine ⟨by omega, by omega, fun l h => ?_⟩
  have := hl l h
  omega

theorem many_ok {b : Bk} (hc0 : checkB b = true) : manyR2 b = (((allNs b).length : Int), 0) := by
  unfold manyR2
  rw [hc0, if_pos rfl]

theorem c34k (b : Bk) (hs : Small b) (hc0 : checkB b = true) : Ctr Try.prog 34 [KB b] (.tup [.int ((allNs b).length : Nat), .int 0]) := by
  have := c34r b hs
  rw [many_ok hc0] at this
  exact this

theorem c23k (b : Bk) (hs : Small b) (hc0 : checkB b = true) : Ctr Try.prog 23 [KB b] (.tup [.int (leastB b), .int 0]) := by
  have := c23 b hs
  rw [hc0, if_pos rfl, least_k (val_of_check hc0)] at this
  exact this

theorem least_pos {b : Bk} (hv : Val b) : 0 ≤ leastB b := by
  obtain ⟨_, l, _, h2⟩ := least_spec hv
  have := (costN_bd hv l).1
  omega

end Go.Proofs.Ytkkiipjfbebipaa

/- KnotsRetied. -/
set_option linter.unusedSimpArgs false
set_option linter.unusedVariables false
set_option linter.unnecessarySimpa false
namespace Go.Proofs.Ytkkiipjfbebipaa
open Go Go.V

theorem c36 (e : Int) : Ctr Try.prog 36 [.int e] (.bool (decide (e = 0) || decide (e = 3))) := by
  refine ctr_of_wp hmix Try.func36 m36 rfl ?_
  unfold v36
  simp -failIfUnchanged (disch := first | omega | (simp [wcs_len] <;> omega) | fail) only [go_sem, simprocAttr]
  refine WGd_bool (fun h => ?_) (fun h => ?_)
  · simp -failIfUnchanged (disch := first | omega | (simp [wcs_len] <;> omega) | fail) only [go_sem, simprocAttr, h]
  · simp -failIfUnchanged (disch := first | omega | (simp [wcs_len] <;> omega) | fail) only [go_sem, simprocAttr, h]

theorem c37 (l : List Int) (lo hi : Int) (hl : l.length < 4294967296) (h1 : ∀ x ∈ l, within x lo hi = true) (h2 : ∀ i, i + 1 < l.length → l[i]?.getD default < l[i + 1]?.getD default) : Ctr Try.prog 37 [IS l, .int lo, .int hi] (.bool true) := by
  refine ctr_of_wp hmix Try.func37 m37 rfl ?_
  unfold v37 IS
  simp -failIfUnchanged (disch := first | omega | (simp [wcs_len] <;> omega) | fail) only [go_sem, simprocAttr]
  refine wp_loop' Nat (fun i => ⟨[(0, IS l), (1, .int lo), (2, .int hi), (7, .int (i : Nat))], [], [], none⟩) (fun i => i ≤ l.length) (fun i => l.length - i) 0 (by simp) (by unfold IS; simp -failIfUnchanged (disch := first | omega | (simp [wcs_len] <;> omega) | fail) only [go_sem, simprocAttr]; try simp) ?_
  intro i hi'
  unfold IS
  simp -failIfUnchanged (disch := first | omega | (simp [wcs_len] <;> omega) | fail) only [go_sem, simprocAttr]
  refine wcond_dec (fun h => ?_) (fun h => ?_)
  · have hlt : i < l.length := by omega
    simp -failIfUnchanged (disch := first | omega | (simp [wcs_len] <;> omega) | fail) only [go_sem, simprocAttr]
    refine wcall (c40 _ _ _) ?_
    have hw := h1 _ (mem_getD hlt)
    simp -failIfUnchanged (disch := first | omega | (simp [wcs_len] <;> omega) | fail) only [go_sem, simprocAttr, hw]
    refine WGd_bool (fun h3 => ?_) (fun h3 => ?_)
    · have hpos : 0 < i := by simpa using h3
      obtain ⟨k, rfl⟩ : ∃ k, i = k + 1 := ⟨i - 1, by omega⟩
      have e1 : (((k + 1 : Nat) : Int) - 1) = (k : Nat) := by omega
      have e2 := h2 k hlt
      simp -failIfUnchanged (disch := first | omega | (simp [wcs_len] <;> omega) | fail) only [go_sem, simprocAttr, h3, e1, Int.toNat_natCast]
      have e3 : decide (l[k + 1]?.getD default ≤ l[k]?.getD default) = false := by simp; omega
      simp -failIfUnchanged (disch := first | omega | (simp [wcs_len] <;> omega) | fail) only [go_sem, simprocAttr, h3, e1, e3]
      refine ⟨k + 2, by dsimp only; omega, by dsimp only; omega, ?_⟩
      simp -failIfUnchanged (disch := first | omega | (simp [wcs_len] <;> omega) | fail) only [go_sem, simprocAttr]
      try simp
      try omega
    · simp -failIfUnchanged (disch := first | omega | (simp [wcs_len] <;> omega) | fail) only [go_sem, simprocAttr, h3]
      refine ⟨i + 1, by dsimp only; omega, by dsimp only; omega, ?_⟩
      simp -failIfUnchanged (disch := first | omega | (simp [wcs_len] <;> omega) | fail) only [go_sem, simprocAttr]
      try simp
  · simp -failIfUnchanged (disch := first | omega | (simp [wcs_len] <;> omega) | fail) only [go_sem, simprocAttr]

theorem blL_rise (b : Bk) (k : Nat) : (∀ x ∈ blL b k, 0 ≤ x ∧ x < k) ∧ (∀ i, i + 1 < (blL b k).length → (blL b k)[i]?.getD default < (blL b k)[i + 1]?.getD default) ∧ (blL b k).length ≤ k := by
  have hp : List.Pairwise (· < ·) (blL b k) := by
    unfold blL
    rw [List.pairwise_map]
    refine List.Pairwise.imp ?_ (List.Pairwise.filter _ List.pairwise_lt_range)
    intro a c h
    omega
  refine ⟨fun x hx => ?_, fun i hi => ?_, ?_⟩
  · unfold blL at hx
    obtain ⟨n, hn, rfl⟩ := List.mem_map.1 hx
    have := List.mem_range.1 (List.mem_filter.1 hn).1
    omega
  · have := List.pairwise_iff_getElem.1 hp i (i + 1) (by omega) hi (by omega)
    rw [List.getElem?_eq_getElem (by omega), List.getElem?_eq_getElem hi]
    exact this
  · unfold blL
    rw [List.length_map]
    exact Nat.le_trans (List.length_filter_le _ _) (by simp)

theorem least_bd {b : Bk} (hv : Val b) : leastB b ≤ 200 := by
  obtain ⟨_, l, _, h2⟩ := least_spec hv
  have := (costN_bd hv l).2
  omega

theorem c6 (b : Bk) (h1 : b.cords.length < 9223372036854775808) (n c p : Int) : Ctr Try.prog 6 [KB b, .agg [.int n, .int c, .int p]] (.bool true) := by
  refine ctr_of_wp hmix Try.func6 m6 rfl ?_
  unfold v6
  simp -failIfUnchanged (disch := first | omega | (simp [wcs_len] <;> omega) | fail) only [go_sem, simprocAttr]
  refine wcall (c28 b h1) ?_
  cases hrd : (!hugeB b && checkB b) with
  | false =>
    simp -failIfUnchanged (disch := first | omega | (simp [wcs_len] <;> omega) | fail) only [go_sem, simprocAttr]
    refine wcall c17 ?_
    simp -failIfUnchanged (disch := first | omega | (simp [wcs_len] <;> omega) | fail) only [go_sem, simprocAttr]
  | true =>
    simp only [Bool.and_eq_true, Bool.not_eq_true'] at hrd
    obtain ⟨hh, hc0⟩ := hrd
    have hs := small_small hh
    have hv := val_of_check hc0
    have hcl := hv.hc
    simp -failIfUnchanged (disch := first | omega | (simp [wcs_len] <;> omega) | fail) only [go_sem, simprocAttr]
    refine WGd_bool (fun h3 => ?_) (fun h3 => ?_)
    · simp -failIfUnchanged (disch := first | omega | (simp [wcs_len] <;> omega) | fail) only [go_sem, simprocAttr, h3]
      refine wcall (c29 b c) ?_
      cases h4 : within c 0 b.cords.length with
      | false =>
        simp -failIfUnchanged (disch := first | omega | (simp [wcs_len] <;> omega) | fail) only [go_sem, simprocAttr]
        refine wcall c17 ?_
        simp -failIfUnchanged (disch := first | omega | (simp [wcs_len] <;> omega) | fail) only [go_sem, simprocAttr]
      | true =>
        simp -failIfUnchanged (disch := first | omega | (simp [wcs_len] <;> omega) | fail) only [go_sem, simprocAttr]
        refine wcall (c30 b p) ?_
        cases h5 : within p 0 (w64 (b.places - 1)) with
        | false =>
          simp -failIfUnchanged (disch := first | omega | (simp [wcs_len] <;> omega) | fail) only [go_sem, simprocAttr]
          refine wcall c17 ?_
          simp -failIfUnchanged (disch := first | omega | (simp [wcs_len] <;> omega) | fail) only [go_sem, simprocAttr]
        | true =>
          have hpp := hv.hp
          have hbb := hv.hb
          obtain ⟨cn, rfl, hcn⟩ : ∃ cn : Nat, c = cn ∧ cn ≤ b.cords.length := ⟨c.toNat, by simp [within] at h4; omega, by simp [within] at h4; omega⟩
          obtain ⟨pn, rfl, hpn⟩ : ∃ pn : Nat, p = pn ∧ pn < b.places.toNat := ⟨p.toNat, by simp [within] at h5; omega, by rw [w64_id (by omega)] at h5; simp [within] at h5; omega⟩
          have hl0 := least_pos hv
          have hl1 := least_bd hv
          have hlz := least_zero hv
          have hlen : (cordAt b cn).length = b.places.toNat := by have := (cordAt_val hv hcn).1; omega
          have hsp := (cordAt_val hv hcn).2 _ (mem_getD (show pn < (cordAt b cn).length by omega))
          -- behind the first conditions
          have hbl : ∃ (l : List Int) (g : Int), blameV b = (l, g) ∧ (decide (g = 0) || decide (g = 3)) = true ∧ (decide (g = 0) = decide (0 < leastB b)) ∧ (decide (g = 0) = decide (0 < (l.length : Int))) ∧ (l.length : Int) ≤ b.cords.length + 1 ∧
              (∀ x ∈ l, within x 0 b.cords.length = true) ∧ (∀ i, i + 1 < l.length → l[i]?.getD default < l[i + 1]?.getD default) := by
            unfold blameV
            rw [hc0, if_pos rfl]
            by_cases h0 : leastB b = 0
            · rw [if_pos h0]
              exact ⟨_, _, rfl, by decide, by simp [h0], by simp, by simp; omega, fun x hx => by simp at hx, fun i hi => by simp at hi⟩
            · rw [if_neg h0]
              obtain ⟨r1, r2, r3⟩ := blL_rise b (b.cords.length + 1)
              have hne : (blL b (b.cords.length + 1)).length ≠ 0 := fun h => h0 ((blL_none hv).1 h)
              refine ⟨_, _, rfl, by decide, ?_, ?_, by omega, fun x hx => ?_, r2⟩
              · simp; omega
              · simp; omega
              · have := r1 x hx
                simp [within]; omega
          obtain ⟨l, g, hbv, hg1, hg2, hg3, hg4, hg5, hg6⟩ := hbl
          have hz1 : (decide (leastB b = 0) == decide (0 < ((allNs b).length : Int))) = true := by
            simp only [beq_iff_eq, decide_eq_decide]
            rw [hlz]; omega
          have e1 : decide (leastB b < 0) = false := by simp; omega
          have e2 : decide (((b.cords.length : Int) + 1) < (l.length : Int)) = false := by simp; omega
          simp -failIfUnchanged (disch := first | omega | (simp [wcs_len] <;> omega) | fail) only [go_sem, simprocAttr]
          refine wcall (c23k b hs hc0) ?_
          simp -failIfUnchanged (disch := first | omega | (simp [wcs_len] <;> omega) | fail) only [go_sem, simprocAttr]
          refine wcall (c34k b hs hc0) ?_
          simp -failIfUnchanged (disch := first | omega | (simp [wcs_len] <;> omega) | fail) only [go_sem, simprocAttr]
          refine wcall (c25r b hs) ?_
          rw [hbv]
          simp -failIfUnchanged (disch := first | omega | (simp [wcs_len] <;> omega) | fail) only [go_sem, simprocAttr]
          refine wcall (c36 g) ?_
          have hg2' : (decide (g = 0) == decide (0 < leastB b)) = true := by rw [hg2]; exact beq_self_eq_true _
          have hg3' : (decide (g = 0) == decide (0 < (l.length : Int))) = true := by rw [hg3]; exact beq_self_eq_true _
          simp -failIfUnchanged (disch := first | omega | (simp [wcs_len] <;> omega) | fail) only [go_sem, simprocAttr, hg1, e1, hz1, hg2', hg3', e2]
          refine wcall (c37 l 0 b.cords.length (by omega) hg5 hg6) ?_
          simp -failIfUnchanged (disch := first | omega | (simp [wcs_len] <;> omega) | fail) only [go_sem, simprocAttr]
          refine wcall (c32 b cn hcn) ?_
          simp -failIfUnchanged (disch := first | omega | (simp [wcs_len] <;> omega) | fail) only [go_sem, simprocAttr]
          obtain ⟨sp, hspe⟩ : ∃ sp, (cordAt b cn)[pn]?.getD default = sp := ⟨_, rfl⟩
          have hcs : cordSp b cn pn = sp := hspe
          rw [hspe] at hsp
          simp -failIfUnchanged (disch := first | omega | (simp [wcs_len] <;> omega) | fail) only [go_sem, simprocAttr, hspe]
          refine wcall (c33r b hv cn pn ⟨sp.lo - 1, sp.hi⟩ hcn hpn) ?_
          simp -failIfUnchanged (disch := first | omega | (simp [wcs_len] <;> omega) | fail) only [go_sem, simprocAttr]
          refine wcall (c33r b hv cn pn ⟨sp.lo, sp.hi + 1⟩ hcn hpn) ?_
          have near : ∀ t : Sp, (∀ d : Nat, costL sp d - 1 ≤ costL t d ∧ costL t d ≤ costL sp d) → checkB (withB b cn pn t) = true → leastB b - 1 ≤ leastB (withB b cn pn t) ∧ leastB (withB b cn pn t) ≤ leastB b := by
            intro t ht hc'
            exact least_near hv hcn hpn (val_of_check hc') (fun d => by rw [hcs]; exact ht d)
          have near1 := near ⟨sp.lo - 1, sp.hi⟩ (cost_less hsp.2.1)
          have near2 := near ⟨sp.lo, sp.hi + 1⟩ (cost_more hsp.2.1)
          have sm1 := small_with hv cn pn ⟨sp.lo - 1, sp.hi⟩
          have sm2 := small_with hv cn pn ⟨sp.lo, sp.hi + 1⟩
          have wl1 := withB_len b cn pn ⟨sp.lo - 1, sp.hi⟩
          have wl2 := withB_len b cn pn ⟨sp.lo, sp.hi + 1⟩
          generalize withB b cn pn ⟨sp.lo - 1, sp.hi⟩ = b1 at *
          generalize withB b cn pn ⟨sp.lo, sp.hi + 1⟩ = b2 at *
          clear near hbv
          simp -failIfUnchanged (disch := first | omega | (simp [wcs_len] <;> omega) | fail) only [go_sem, simprocAttr]
          refine wcall (c28 b1 (by omega)) ?_
          cases hq1 : (!hugeB b1 && checkB b1) with
          | false =>
            simp -failIfUnchanged (disch := first | omega | (simp [wcs_len] <;> omega) | fail) only [go_sem, simprocAttr]
            refine wcall (c28 b2 (by omega)) ?_
            cases hq2 : (!hugeB b2 && checkB b2) with
            | false =>
              simp -failIfUnchanged (disch := first | omega | (simp [wcs_len] <;> omega) | fail) only [go_sem, simprocAttr]
              refine wcall c17 ?_
              simp -failIfUnchanged (disch := first | omega | (simp [wcs_len] <;> omega) | fail) only [go_sem, simprocAttr]
            | true =>
              simp only [Bool.and_eq_true, Bool.not_eq_true'] at hq2
              obtain ⟨n21, n22⟩ := near2 hq2.2
              have f1 : decide (leastB b < leastB b2) = false := by simp; omega
              have f2 : decide (leastB b2 < leastB b - 1) = false := by simp; omega
              simp -failIfUnchanged (disch := first | omega | (simp [wcs_len] <;> omega) | fail) only [go_sem, simprocAttr]
              refine wcall (c23k b2 sm2 hq2.2) ?_
              simp -failIfUnchanged (disch := first | omega | (simp [wcs_len] <;> omega) | fail) only [go_sem, simprocAttr, f1, f2]
              refine wcall c17 ?_
              simp -failIfUnchanged (disch := first | omega | (simp [wcs_len] <;> omega) | fail) only [go_sem, simprocAttr]
          | true =>
            simp only [Bool.and_eq_true, Bool.not_eq_true'] at hq1
            obtain ⟨n11, n12⟩ := near1 hq1.2
            have e3 : decide (leastB b < leastB b1) = false := by simp; omega
            have e4 : decide (leastB b1 < leastB b - 1) = false := by simp; omega
            simp -failIfUnchanged (disch := first | omega | (simp [wcs_len] <;> omega) | fail) only [go_sem, simprocAttr]
            refine wcall (c23k b1 sm1 hq1.2) ?_
            simp -failIfUnchanged (disch := first | omega | (simp [wcs_len] <;> omega) | fail) only [go_sem, simprocAttr, e3, e4]
            refine wcall (c28 b2 (by omega)) ?_
            cases hq2 : (!hugeB b2 && checkB b2) with
            | false =>
              simp -failIfUnchanged (disch := first | omega | (simp [wcs_len] <;> omega) | fail) only [go_sem, simprocAttr]
              refine wcall c17 ?_
              simp -failIfUnchanged (disch := first | omega | (simp [wcs_len] <;> omega) | fail) only [go_sem, simprocAttr]
            | true =>
              simp only [Bool.and_eq_true, Bool.not_eq_true'] at hq2
              obtain ⟨n21, n22⟩ := near2 hq2.2
              have f1 : decide (leastB b < leastB b2) = false := by simp; omega
              have f2 : decide (leastB b2 < leastB b - 1) = false := by simp; omega
              simp -failIfUnchanged (disch := first | omega | (simp [wcs_len] <;> omega) | fail) only [go_sem, simprocAttr]
              refine wcall (c23k b2 sm2 hq2.2) ?_
              simp -failIfUnchanged (disch := first | omega | (simp [wcs_len] <;> omega) | fail) only [go_sem, simprocAttr, f1, f2]
              refine wcall c17 ?_
              simp -failIfUnchanged (disch := first | omega | (simp [wcs_len] <;> omega) | fail) only [go_sem, simprocAttr]
    · simp -failIfUnchanged (disch := first | omega | (simp [wcs_len] <;> omega) | fail) only [go_sem, simprocAttr, h3]
      refine wcall c17 ?_
      simp -failIfUnchanged (disch := first | omega | (simp [wcs_len] <;> omega) | fail) only [go_sem, simprocAttr]

end Go.Proofs.Ytkkiipjfbebipaa

/- Plain law for KnotsCount: the cluster to be counted. -/
set_option linter.unusedSimpArgs false
set_option linter.unusedVariables false
set_option linter.unnecessarySimpa false
namespace Go.Proofs.Ytkkiipjfbebipaa
open Go Go.V

theorem sums_nodup (b : Bk) (f : Bool) : ∀ (k : Nat) (first : List Nat), (sumsN b f k first).Pairwise (· ≠ ·)
  | 0, first => by
    unfold sumsN
    split <;> simp
  | k + 1, first => by
    unfold sumsN
    rw [List.pairwise_flatMap]
    refine ⟨fun n _ => sums_nodup b f k (first ++ [n]), ?_⟩
    have h0 : ((List.range (allN b)).filter (isN b first.length f)).Pairwise (· < ·) := List.Pairwise.filter _ List.pairwise_lt_range
    refine List.Pairwise.imp ?_ h0
    intro n m hnm x hx y hy e
    subst e
    have h1 := sums_pre b f k (first ++ [n]) x hx first.length (by simp)
    have h2 := sums_pre b f k (first ++ [m]) x hy first.length (by simp)
    rw [h1] at h2
    simp at h2
    omega

def wstA (b : Bk) (c p : Nat) : Nat := wstN b (allNs b) c p (allNs b).length

theorem cntN_all (b : Bk) (c p d : Nat) : cntN b (allNs b) c p (allNs b).length d = ((allNs b).filter fun l => decide (dgN b l c p = d)).length := by
  unfold cntN
  rw [List.take_length, ← sumF_len, sumF_filter]
  refine sumF_congr fun l _ => ?_
  by_cases h : dgN b l c p = d <;> simp [h]

/-- Where there are two readings, some cluster parts them. -/
theorem wst_parts {b : Bk} (hv : Val b) (h2 : 2 ≤ (allNs b).length) : ∃ c p, c ≤ b.cords.length ∧ p < b.places.toNat ∧ wstA b c p < (allNs b).length := by
  apply Classical.byContradiction
  intro hno
  have hall : ∀ c p, c ≤ b.cords.length → p < b.places.toNat → (allNs b).length ≤ wstA b c p := by
    intro c p hc hp
    apply Classical.byContradiction
    intro h
    exact hno ⟨c, p, hc, hp, by omega⟩
  have hB : 0 < b.base.toNat := by have := hv.hb; omega
  have hsame : ∀ c p, c ≤ b.cords.length → p < b.places.toNat → ∀ l ∈ allNs b, ∀ m ∈ allNs b, dgN b l c p = dgN b m c p := by
    intro c p hc hp l hl m hm
    have h1 := hall c p hc hp
    rcases (wstN_spec hB (allNs b) c p (allNs b).length (Nat.le_refl _)).2 with h | ⟨d, _, h⟩
    · unfold wstA at h1; omega
    · have h3 : ((allNs b).filter fun l => decide (dgN b l c p = d)).length = (allNs b).length := by
        have := cntN_le b (allNs b) c p (allNs b).length d
        rw [← cntN_all]
        unfold wstA at h1
        omega
      have h4 := List.length_filter_eq_length_iff.1 h3
      have a1 := h4 l hl
      have a2 := h4 m hm
      simp only [decide_eq_true_eq] at a1 a2
      rw [a1, a2]
  have hl0 : (allNs b)[0] ∈ allNs b := List.getElem_mem _
  have hl1 : (allNs b)[1] ∈ allNs b := List.getElem_mem _
  have hne : (allNs b)[0] ≠ (allNs b)[1] := by
    have := List.pairwise_iff_getElem.1 (sums_nodup b false b.cords.length []) 0 1 (by unfold allNs at h2; omega) (by unfold allNs at h2; omega) (by omega)
    exact this
  obtain ⟨n0, k0⟩ := allNs_mem hl0
  obtain ⟨n1, k1⟩ := allNs_mem hl1
  apply hne
  apply List.ext_getElem (by omega)
  intro c hc0 hc1
  have hc : c ≤ b.cords.length := by omega
  have e1 : (allNs b)[0][c]?.getD default = (allNs b)[0][c] := by simp [hc0]
  have e2 : (allNs b)[1][c]?.getD default = (allNs b)[1][c] := by simp [hc1]
  have hb := hv.hb
  have hpp := hv.hp
  have ht : tieN b.base.toNat b.places.toNat ((allNs b)[0][c]) = tieN b.base.toNat b.places.toNat ((allNs b)[1][c]) := by
    apply List.ext_getElem?
    intro p
    rcases Nat.lt_or_ge p b.places.toNat with hp | hp
    · have h := hsame c p hc hp _ hl0 _ hl1
      have t0 := tieN_at b.base.toNat b.places.toNat ((allNs b)[0][c]) p hp
      have t1 := tieN_at b.base.toNat b.places.toNat ((allNs b)[1][c]) p hp
      unfold dgN at h
      rw [e1, e2] at h
      have q0 : p < (tieN b.base.toNat b.places.toNat ((allNs b)[0][c])).length := by rw [tieN_len]; exact hp
      have q1 : p < (tieN b.base.toNat b.places.toNat ((allNs b)[1][c])).length := by rw [tieN_len]; exact hp
      rw [List.getElem?_eq_getElem q0] at t0 ⊢
      rw [List.getElem?_eq_getElem q1] at t1 ⊢
      simp only [Option.getD_some] at t0 t1
      rw [t0, t1, h]
    · rw [List.getElem?_eq_none (by rw [tieN_len]; omega), List.getElem?_eq_none (by rw [tieN_len]; omega)]
  have g0 := numL_tie b.base.toNat (by omega) b.places.toNat ((allNs b)[0][c]) (by omega) (k0 _ (List.getElem_mem _))
  have g1 := numL_tie b.base.toNat (by omega) b.places.toNat ((allNs b)[1][c]) (by omega) (k1 _ (List.getElem_mem _))
  rw [ht] at g0
  rw [g0] at g1
  exact_mod_cast g1

theorem wst_pos {b : Bk} (hv : Val b) (h1 : 1 ≤ (allNs b).length) {c p : Nat} : 1 ≤ wstA b c p := by
  have hB : 0 < b.base.toNat := by have := hv.hb; omega
  have h := (wstN_spec hB (allNs b) c p (allNs b).length (Nat.le_refl _)).1 (dgN b (allNs b)[0] c p)
  rw [cntN_all] at h
  have : 0 < ((allNs b).filter fun l => decide (dgN b l c p = dgN b (allNs b)[0] c p)).length := List.length_pos_of_mem (List.mem_filter.2 ⟨List.getElem_mem (l := allNs b) (n := 0) (by omega), by simp⟩)
  unfold wstA
  omega

/-- The least of all. -/
structure Lst (b : Bk) (s : As3) (P : Nat → Nat → Prop) : Prop where
  w : s.w = wstA b s.c.toNat s.p.toNat ∧ P s.c.toNat s.p.toNat ∧ 0 ≤ s.c ∧ 0 ≤ s.p
  le : ∀ c p, P c p → s.w ≤ wstA b c p ∧ (s.w = wstA b c p → s.c < c ∨ (s.c = c ∧ s.p ≤ p))

theorem lst_step {b : Bk} {s : As3} {P P' : Nat → Nat → Prop} {c p : Nat} (h : Lst b s P ∨ ((∀ x y, ¬ P x y) ∧ s.w = (allNs b).length + 1)) (hP : ∀ x y, P' x y ↔ P x y ∨ (x = c ∧ y = p)) (hlex : ∀ x y, P x y → x < c ∨ (x = c ∧ y < p)) :
    Lst b (aStep b (allNs b) c s p) P' := by
  have hwl : wstA b c p ≤ (allNs b).length := wstN_le b (allNs b) c p _
  unfold aStep
  rcases h with h | ⟨h0, hw⟩
  · obtain ⟨w1, w2, w3, w4⟩ := h.w
    by_cases hlt : (wstN b (allNs b) c p (allNs b).length : Int) < s.w
    · rw [if_pos hlt]
      refine ⟨⟨by simp [wstA], by rw [hP]; exact .inr (by simp), by simp, by simp⟩, fun x y hxy => ?_⟩
      rw [hP] at hxy
      rcases hxy with hxy | ⟨rfl, rfl⟩
      · have := (h.le x y hxy).1
        dsimp only
        refine ⟨by omega, fun e => by omega⟩
      · exact ⟨by simp [wstA], fun _ => .inr ⟨rfl, Int.le_refl _⟩⟩
    · rw [if_neg hlt]
      refine ⟨⟨w1, by rw [hP]; exact .inl w2, w3, w4⟩, fun x y hxy => ?_⟩
      rw [hP] at hxy
      rcases hxy with hxy | ⟨rfl, rfl⟩
      · exact h.le x y hxy
      · have hl := hlex _ _ w2
        unfold wstA
        refine ⟨by omega, fun _ => by omega⟩
  · rw [if_pos (by unfold wstA at hwl; omega)]
    refine ⟨⟨by simp [wstA], by rw [hP]; exact .inr (by simp), by simp, by simp⟩, fun x y hxy => ?_⟩
    rw [hP] at hxy
    rcases hxy with hxy | ⟨rfl, rfl⟩
    · exact absurd hxy (h0 x y)
    · exact ⟨by simp [wstA], fun _ => .inr ⟨rfl, Int.le_refl _⟩⟩

theorem lst_row {b : Bk} {s : As3} {c P : Nat} (h : Lst b s (fun x y => x < c ∧ y < P) ∨ ((∀ x y, ¬ (x < c ∧ y < P)) ∧ s.w = (allNs b).length + 1)) : ∀ k, k ≤ P →
    Lst b (aRow b (allNs b) c s k) (fun x y => (x < c ∧ y < P) ∨ (x = c ∧ y < k)) ∨ ((∀ x y, ¬ ((x < c ∧ y < P) ∨ (x = c ∧ y < k))) ∧ (aRow b (allNs b) c s k).w = (allNs b).length + 1)
  | 0, _ => by
    have e : (fun x y => (x < c ∧ y < P) ∨ (x = c ∧ y < 0)) = fun x y => x < c ∧ y < P := by
      funext x y
      apply propext
      omega
    simp only [e]
    rcases h with h | ⟨h1, h2⟩
    · exact .inl h
    · exact .inr ⟨fun x y hh => h1 x y (by omega), h2⟩
  | k + 1, hk => by
    rw [aRow_succ]
    have ih := lst_row h k (by omega)
    exact .inl (lst_step ih (fun x y => by omega) (fun x y hh => by omega))

theorem lst_all {b : Bk} (hv : Val b) : ∀ k, Lst b (aAll b (allNs b) k) (fun x y => x < k ∧ y < b.places.toNat) ∨ ((∀ x y, ¬ (x < k ∧ y < b.places.toNat)) ∧ (aAll b (allNs b) k).w = (allNs b).length + 1)
  | 0 => .inr ⟨fun x y h => by omega, rfl⟩
  | k + 1 => by
    rw [aAll_succ]
    have hpp := hv.hp
    have h := lst_row (lst_all hv k) b.places.toNat (Nat.le_refl _)
    have e : (fun x y => (x < k ∧ y < b.places.toNat) ∨ (x = k ∧ y < b.places.toNat)) = fun x y => x < k + 1 ∧ y < b.places.toNat := by
      funext x y
      apply propext
      omega
    rw [e] at h
    rcases h with h | ⟨h, _⟩
    · exact .inl h
    · exact absurd (show (k < k ∧ 0 < b.places.toNat) ∨ (k = k ∧ 0 < b.places.toNat) by omega) (h k 0)

theorem ask_spec {b : Bk} (hv : Val b) : Lst b (aAll b (allNs b) (b.cords.length + 1)) (fun x y => x < b.cords.length + 1 ∧ y < b.places.toNat) := by
  have hpp := hv.hp
  rcases lst_all hv (b.cords.length + 1) with h | ⟨h, _⟩
  · exact h
  · exact absurd (show 0 < b.cords.length + 1 ∧ 0 < b.places.toNat by omega) (h 0 0)

end Go.Proofs.Ytkkiipjfbebipaa

/- KnotsCount. -/
set_option linter.unusedSimpArgs false
set_option linter.unusedVariables false
set_option linter.unnecessarySimpa false
namespace Go.Proofs.Ytkkiipjfbebipaa
open Go Go.V

/-- The greatest count of readings that have one digit. -/
def mxD (b : Bk) (c p lo : Nat) : Nat → Nat
  | 0 => 0
  | k + 1 => max (mxD b c p lo k) (cntN b (allNs b) c p (allNs b).length (lo + k))

theorem mxD_ge (b : Bk) (c p lo : Nat) : ∀ k i, i < k → cntN b (allNs b) c p (allNs b).length (lo + i) ≤ mxD b c p lo k
  | 0, i, h => by omega
  | k + 1, i, h => by
    unfold mxD
    rcases Nat.lt_or_ge i k with h1 | h1
    · have := mxD_ge b c p lo k i h1; omega
    · obtain rfl : i = k := by omega
      omega

theorem mxD_is {b : Bk} (hv : Val b) (c p lo : Nat) : ∀ k, mxD b c p lo k ≤ wstA b c p
  | 0 => Nat.zero_le _
  | k + 1 => by
    have h1 := mxD_is hv c p lo k
    have hB : 0 < b.base.toNat := by have := hv.hb; omega
    have h2 := (wstN_spec hB (allNs b) c p (allNs b).length (Nat.le_refl _)).1 (lo + k)
    simp only [mxD]
    unfold wstA at h1 ⊢
    omega

theorem mxD_wst {b : Bk} (hv : Val b) {c p lo hi : Nat} (hc : c ≤ b.cords.length) (hp : p < b.places.toNat) (h1 : (cordSp b c p).lo = lo) (h2 : (cordSp b c p).hi = hi) : mxD b c p lo (hi + 1 - lo) = wstA b c p := by
  have a := mxD_is hv c p lo (hi + 1 - lo)
  have hB : 0 < b.base.toNat := by have := hv.hb; omega
  rcases (wstN_spec hB (allNs b) c p (allNs b).length (Nat.le_refl _)).2 with h | ⟨d, hd, h⟩
  · unfold wstA at *; omega
  · by_cases h0 : wstN b (allNs b) c p (allNs b).length = 0
    · unfold wstA at *; omega
    · have hne : 0 < cntN b (allNs b) c p (allNs b).length d := by omega
      rw [cntN_all] at hne
      obtain ⟨l, hl⟩ := List.exists_mem_of_length_pos hne
      obtain ⟨hl1, hl2⟩ := List.mem_filter.1 hl
      have hl3 : dgN b l c p = d := by simpa using hl2
      have hin := dig_in hv hl1 hc hp
      rw [hl3, h1, h2] at hin
      have := mxD_ge b c p lo (hi + 1 - lo) (d - lo) (by omega)
      rw [show lo + (d - lo) = d by omega] at this
      unfold wstA at *
      omega

theorem c38 (b : Bk) (hc0 : checkB b = true) (c p : Nat) (hc : c ≤ b.cords.length) (hp : p < b.places.toNat) : Ctr Try.prog 38 [KB b, .int c, .int p] (.tup [.int (wstA b c p : Nat), .bool true]) := by
  refine ctr_of_wp hmix Try.func38 m38 rfl ?_
  unfold v38
  have hv := val_of_check hc0
  have hcl := hv.hc
  have hpp := hv.hp
  have hbb := hv.hb
  have hlen : (cordAt b c).length = b.places.toNat := by have := (cordAt_val hv hc).1; omega
  have hsp := (cordAt_val hv hc).2 _ (mem_getD (show p < (cordAt b c).length by omega))
  obtain ⟨sp, hspe⟩ : ∃ sp, (cordAt b c)[p]?.getD default = sp := ⟨_, rfl⟩
  have hcs : cordSp b c p = sp := hspe
  rw [hspe] at hsp
  obtain ⟨lo, hlo⟩ : ∃ lo : Nat, sp.lo = lo := ⟨sp.lo.toNat, by omega⟩
  obtain ⟨hi, hhi⟩ : ∃ hi : Nat, sp.hi = hi := ⟨sp.hi.toNat, by omega⟩
  have hw := mxD_wst hv hc hp (by rw [hcs, hlo]) (by rw [hcs, hhi])
  simp -failIfUnchanged (disch := first | omega | (simp [wcs_len] <;> omega) | fail) only [go_sem, simprocAttr]
  refine wcall (c32 b c hc) ?_
  simp -failIfUnchanged (disch := first | omega | (simp [wcs_len] <;> omega) | fail) only [go_sem, simprocAttr, hspe]
  rw [hlo, hhi]
  refine wp_loop' Nat (fun i => ⟨[(1, .int (c : Nat)), (2, .int (p : Nat)), (3, .ptr 3 0), (8, .ptr 8 0), (9, .int (mxD b c p lo i : Nat)), (10, .int (lo + i : Nat))],
    [(8, ⟨[.int (lo : Nat), .int (hi : Nat)], false⟩), (3, ⟨[.int b.base, .int b.places, .sl 1 (b.cords.map SS) .sh, SS b.top], false⟩)], [], none⟩)
    (fun i => lo + i ≤ hi + 1) (fun i => hi + 1 - lo - i) 0 (by omega) (by simp -failIfUnchanged (disch := first | omega | (simp [wcs_len] <;> omega) | fail) only [go_sem, simprocAttr]; try simp [mxD]) ?_
  intro i hi'
  have hi2 : lo + i ≤ hi + 1 := hi'
  clear hi'
  simp -failIfUnchanged (disch := first | omega | (simp [wcs_len] <;> omega) | fail) only [go_sem, simprocAttr]
  refine wcond_dec (fun h => ?_) (fun h => ?_)
  · have hle : lo + i ≤ hi := by omega
    have hin : (cordSp b c p).lo ≤ ((lo + i : Nat) : Int) ∧ ((lo + i : Nat) : Int) ≤ (cordSp b c p).hi := by rw [hcs]; omega
    have hm := one_with hv hc hp hin
    have hs' := small_with hv c p ⟨((lo + i : Nat) : Int), ((lo + i : Nat) : Int)⟩
    have hv' := val_with hv (p := p) (s := ⟨((lo + i : Nat) : Int), ((lo + i : Nat) : Int)⟩) hc ⟨by dsimp only; omega, by dsimp only; omega, by dsimp only; omega⟩
    have hc0' := check_of_val hv'
    have hle2 := cntN_le b (allNs b) c p (allNs b).length (lo + i)
    simp -failIfUnchanged (disch := first | omega | (simp [wcs_len] <;> omega) | fail) only [go_sem, simprocAttr]
    refine wcall (c33r b hv c p ⟨((lo + i : Nat) : Int), ((lo + i : Nat) : Int)⟩ hc hp) ?_
    simp -failIfUnchanged (disch := first | omega | (simp [wcs_len] <;> omega) | fail) only [go_sem, simprocAttr]
    refine wcall (c34k _ hs' hc0') ?_
    rw [hm]
    have e2 : decide (((cntN b (allNs b) c p (allNs b).length (lo + i) : Nat) : Int) < 0) = false := by simp
    simp -failIfUnchanged (disch := first | omega | (simp [wcs_len] <;> omega) | fail) only [go_sem, simprocAttr, e2]
    refine ⟨i + 1, by dsimp only; omega, by dsimp only; omega, ?_⟩
    simp -failIfUnchanged (disch := first | omega | (simp [wcs_len] <;> omega) | fail) only [go_sem, simprocAttr]
    simp [mxD]
    omega
  · simp -failIfUnchanged (disch := first | omega | (simp [wcs_len] <;> omega) | fail) only [go_sem, simprocAttr]
    have : i = hi + 1 - lo := by omega
    rw [this, hw]

theorem c7 (b : Bk) (h1 : b.cords.length < 9223372036854775808) (n c p : Int) : Ctr Try.prog 7 [KB b, .agg [.int n, .int c, .int p]] (.bool true) := by
  refine ctr_of_wp hmix Try.func7 m7 rfl ?_
  unfold v7
  simp -failIfUnchanged (disch := first | omega | (simp [wcs_len] <;> omega) | fail) only [go_sem, simprocAttr]
  refine wcall (c28 b h1) ?_
  cases hrd : (!hugeB b && checkB b) with
  | false =>
    simp -failIfUnchanged (disch := first | omega | (simp [wcs_len] <;> omega) | fail) only [go_sem, simprocAttr]
    refine wcall c17 ?_
    simp -failIfUnchanged (disch := first | omega | (simp [wcs_len] <;> omega) | fail) only [go_sem, simprocAttr]
  | true =>
    simp only [Bool.and_eq_true, Bool.not_eq_true'] at hrd
    obtain ⟨hh, hc0⟩ := hrd
    have hs := small_small hh
    have hv := val_of_check hc0
    have hcl := hv.hc
    simp -failIfUnchanged (disch := first | omega | (simp [wcs_len] <;> omega) | fail) only [go_sem, simprocAttr]
    refine WGd_bool (fun h3 => ?_) (fun h3 => ?_)
    · simp -failIfUnchanged (disch := first | omega | (simp [wcs_len] <;> omega) | fail) only [go_sem, simprocAttr, h3]
      refine WGd_bool (fun h3b => ?_) (fun h3b => ?_)
      · simp -failIfUnchanged (disch := first | omega | (simp [wcs_len] <;> omega) | fail) only [go_sem, simprocAttr, h3b]
        refine wcall (c29 b c) ?_
        cases h4 : within c 0 b.cords.length with
        | false =>
          simp -failIfUnchanged (disch := first | omega | (simp [wcs_len] <;> omega) | fail) only [go_sem, simprocAttr]
          refine wcall c17 ?_
          simp -failIfUnchanged (disch := first | omega | (simp [wcs_len] <;> omega) | fail) only [go_sem, simprocAttr]
        | true =>
          simp -failIfUnchanged (disch := first | omega | (simp [wcs_len] <;> omega) | fail) only [go_sem, simprocAttr]
          refine wcall (c30 b p) ?_
          cases h5 : within p 0 (w64 (b.places - 1)) with
          | false =>
            simp -failIfUnchanged (disch := first | omega | (simp [wcs_len] <;> omega) | fail) only [go_sem, simprocAttr]
            refine wcall c17 ?_
            simp -failIfUnchanged (disch := first | omega | (simp [wcs_len] <;> omega) | fail) only [go_sem, simprocAttr]
          | true =>
            have hpp := hv.hp
            have hbb := hv.hb
            obtain ⟨cn, rfl, hcn⟩ : ∃ cn : Nat, c = cn ∧ cn ≤ b.cords.length := ⟨c.toNat, by simp [within] at h4; omega, by simp [within] at h4; omega⟩
            obtain ⟨pn, rfl, hpn⟩ : ∃ pn : Nat, p = pn ∧ pn < b.places.toNat := ⟨p.toNat, by simp [within] at h5; omega, by rw [w64_id (by omega)] at h5; simp [within] at h5; omega⟩
            have hask := c19r b hs
            unfold askR at hask
            rw [hc0, if_pos rfl] at hask
            simp -failIfUnchanged (disch := first | omega | (simp [wcs_len] <;> omega) | fail) only [go_sem, simprocAttr]
            refine wcall hask ?_
            by_cases hl2 : (allNs b).length < 2
            · have e1 : decide (1 < ((allNs b).length : Int)) = false := by simp; omega
              rw [if_pos hl2]
              simp -failIfUnchanged (disch := first | omega | (simp [wcs_len] <;> omega) | fail) only [go_sem, simprocAttr]
              refine wcall (c34k b hs hc0) ?_
              simp -failIfUnchanged (disch := first | omega | (simp [wcs_len] <;> omega) | fail) only [go_sem, simprocAttr]
              refine wcall (c36 3) ?_
              simp -failIfUnchanged (disch := first | omega | (simp [wcs_len] <;> omega) | fail) only [go_sem, simprocAttr, e1]
              refine wcall c17 ?_
              simp -failIfUnchanged (disch := first | omega | (simp [wcs_len] <;> omega) | fail) only [go_sem, simprocAttr]
            · have e1 : decide (1 < ((allNs b).length : Int)) = true := by simp; omega
              rw [if_neg hl2]
              have hsp := ask_spec hv
              generalize aAll b (allNs b) (b.cords.length + 1) = s at hsp hask ⊢
              obtain ⟨⟨w1, ⟨w2, w3⟩, w4, w5⟩, hle⟩ := hsp
              obtain ⟨sc, sp, sw⟩ := s
              dsimp only at w1 w2 w3 w4 w5 hle hask ⊢
              obtain ⟨C, rfl⟩ : ∃ C : Nat, sc = C := ⟨sc.toNat, by omega⟩
              obtain ⟨P, rfl⟩ : ∃ P : Nat, sp = P := ⟨sp.toNat, by omega⟩
              simp only [Int.toNat_natCast] at w1 w2 w3
              have hq1 : within (C : Int) 0 b.cords.length = true := by simp [within]; omega
              have hq2 : within (P : Int) 0 (w64 (b.places - 1)) = true := by rw [w64_id (by omega)]; simp [within]; omega
              obtain ⟨c2, p2, g1, g2, g3⟩ := wst_parts hv (show 2 ≤ (allNs b).length by omega)
              have g4 := (hle c2 p2 ⟨by omega, g2⟩).1
              have g5 := wst_pos hv (show 1 ≤ (allNs b).length by omega) (c := C) (p := P)
              obtain ⟨g6, g7⟩ := hle cn pn ⟨by omega, hpn⟩
              have e2 : decide (((allNs b).length : Int) ≤ (wstA b C P : Nat)) = false := by simp; omega
              have e3 : decide (((wstA b C P : Nat) : Int) < 1) = false := by simp; omega
              have e4 : decide (((wstA b cn pn : Nat) : Int) < (wstA b C P : Nat)) = false := by simp; omega
              simp -failIfUnchanged (disch := first | omega | (simp [wcs_len] <;> omega) | fail) only [go_sem, simprocAttr]
              refine wcall (c34k b hs hc0) ?_
              simp -failIfUnchanged (disch := first | omega | (simp [wcs_len] <;> omega) | fail) only [go_sem, simprocAttr]
              refine wcall (c36 0) ?_
              simp -failIfUnchanged (disch := first | omega | (simp [wcs_len] <;> omega) | fail) only [go_sem, simprocAttr, e1]
              refine wcall (c29 b C) ?_
              simp -failIfUnchanged (disch := first | omega | (simp [wcs_len] <;> omega) | fail) only [go_sem, simprocAttr, hq1]
              refine wcall (c30 b P) ?_
              have hq3 : within (P : Int) 0 (b.places - 1) = true := by simp [within]; omega
              simp -failIfUnchanged (disch := first | omega | (simp [wcs_len] <;> omega) | fail) only [go_sem, simprocAttr, hq2, hq3]
              refine wcall (c38 b hc0 C P (Nat.le_of_lt_succ w2) w3) ?_
              simp -failIfUnchanged (disch := first | omega | (simp [wcs_len] <;> omega) | fail) only [go_sem, simprocAttr]
              refine wcall (c38 b hc0 cn pn hcn hpn) ?_
              simp -failIfUnchanged (disch := first | omega | (simp [wcs_len] <;> omega) | fail) only [go_sem, simprocAttr, e2, e3, e4]
              refine WGd_bool (fun h6 => ?_) (fun h6 => ?_)
              · simp -failIfUnchanged (disch := first | omega | (simp [wcs_len] <;> omega) | fail) only [go_sem, simprocAttr, h6]
                have h6' : ¬ (wstA b C P < wstA b cn pn) := by simpa using h6
                have h7 := g7 (by omega)
                refine WGd_bool (fun h8 => ?_) (fun h8 => ?_)
                · have h8' : ¬ (C < cn) := by simpa using h8
                  have e5 : decide ((C : Int) = cn) = true := by simp; omega
                  have e6 : decide ((P : Int) ≤ pn) = true := by simp; omega
                  simp -failIfUnchanged (disch := first | omega | (simp [wcs_len] <;> omega) | fail) only [go_sem, simprocAttr, h8, e5, e6]
                  refine wcall c17 ?_
                  simp -failIfUnchanged (disch := first | omega | (simp [wcs_len] <;> omega) | fail) only [go_sem, simprocAttr]
                · simp -failIfUnchanged (disch := first | omega | (simp [wcs_len] <;> omega) | fail) only [go_sem, simprocAttr, h8]
                  refine wcall c17 ?_
                  simp -failIfUnchanged (disch := first | omega | (simp [wcs_len] <;> omega) | fail) only [go_sem, simprocAttr]
              · simp -failIfUnchanged (disch := first | omega | (simp [wcs_len] <;> omega) | fail) only [go_sem, simprocAttr, h6]
                refine wcall c17 ?_
                simp -failIfUnchanged (disch := first | omega | (simp [wcs_len] <;> omega) | fail) only [go_sem, simprocAttr]
      · simp -failIfUnchanged (disch := first | omega | (simp [wcs_len] <;> omega) | fail) only [go_sem, simprocAttr, h3b]
        refine wcall c17 ?_
        simp -failIfUnchanged (disch := first | omega | (simp [wcs_len] <;> omega) | fail) only [go_sem, simprocAttr]
    · simp -failIfUnchanged (disch := first | omega | (simp [wcs_len] <;> omega) | fail) only [go_sem, simprocAttr, h3]
      refine wcall c17 ?_
      simp -failIfUnchanged (disch := first | omega | (simp [wcs_len] <;> omega) | fail) only [go_sem, simprocAttr]

end Go.Proofs.Ytkkiipjfbebipaa

/- KnotsDigits. -/
set_option linter.unusedSimpArgs false
set_option linter.unusedVariables false
set_option linter.unnecessarySimpa false
namespace Go.Proofs.Ytkkiipjfbebipaa
open Go Go.V

end Go.Proofs.Ytkkiipjfbebipaa

/- Plain law: cords in another order; one more cord without knots. -/
set_option linter.unusedSimpArgs false
set_option linter.unusedVariables false
set_option linter.unnecessarySimpa false
namespace Go.Proofs.Ytkkiipjfbebipaa
open Go Go.V

/-! ### what is to be shown when two books' right readings go over into one another -/
theorem len_of_maps {A A' : List (List Nat)} (hA : A.Pairwise (· ≠ ·)) (f g : List Nat → List Nat) (h : ∀ l ∈ A, f l ∈ A' ∧ g (f l) = l) : A.length ≤ A'.length := by
  have h1 : (A.map f).Pairwise (· ≠ ·) := by
    rw [List.pairwise_map]
    refine List.Pairwise.imp_of_mem ?_ hA
    intro a c ha hc hne e
    apply hne
    rw [← (h a ha).2, ← (h c hc).2, e]
  have h2 : A.map f ⊆ A' := by
    intro x hx
    obtain ⟨l, hl, rfl⟩ := List.mem_map.1 hx
    exact (h l hl).1
  have := List.Nodup.length_le_of_subset h1 h2
  simpa using this

theorem span_of_maps {A A' : List (List Nat)} (f f' : List Nat → Int) (hl : A.length = A'.length) (h1 : ∀ l ∈ A, ∃ l' ∈ A', f' l' = f l) (h2 : ∀ l ∈ A', ∃ l' ∈ A, f l' = f' l) (h0 : 0 < A.length) : spanL (A'.map f') A'.length = spanL (A.map f) A.length := by
  obtain ⟨⟨a, ha, e1⟩, ⟨c, hc, e2⟩, e3⟩ := spanL_map f h0
  have hA' : A'.length = (A'.map f').length := by simp
  rw [show spanL (A'.map f') A'.length = spanL (A'.map f') (A'.map f').length by rw [← hA']]
  obtain ⟨a', ha', k1⟩ := h1 a ha
  obtain ⟨c', hc', k2⟩ := h1 c hc
  refine spanL_uniq (lo := (spanL (A.map f) A.length).lo) (hi := (spanL (A.map f) A.length).hi) ?_ ?_ ?_
  · rw [e1, ← k1]; exact List.mem_map.2 ⟨a', ha', rfl⟩
  · rw [e2, ← k2]; exact List.mem_map.2 ⟨c', hc', rfl⟩
  · intro x hx
    obtain ⟨l, hl, rfl⟩ := List.mem_map.1 hx
    obtain ⟨l', hl', k⟩ := h2 l hl
    rw [← k]
    exact e3 l' hl'

theorem mem_frees (b : Bk) : ∀ (k : Nat) (first l : List Nat), l ∈ sumsN b true k first ↔ ∃ ns, ns.length = k ∧ (∀ x ∈ ns, x < allN b) ∧ (first ++ ns).sum < allN b ∧ l = first ++ ns ++ [(first ++ ns).sum]
  | 0, first, l => by
    unfold sumsN
    constructor
    · intro h
      split at h
      · rename_i h1
        simp only [Bool.true_or, Bool.and_true, decide_eq_true_eq] at h1
        simp only [List.mem_singleton] at h
        exact ⟨[], rfl, by simp, by simpa using h1, by simpa using h⟩
      · simp at h
    · rintro ⟨ns, h1, h2, h3, h4⟩
      obtain rfl := List.eq_nil_of_length_eq_zero h1
      simp only [List.append_nil] at h3 h4
      simp [h3, h4]
  | k + 1, first, l => by
    unfold sumsN
    rw [List.mem_flatMap]
    constructor
    · rintro ⟨n, hn, hl⟩
      have hn2 := List.mem_range.1 (List.mem_filter.1 hn).1
      obtain ⟨ns, h1, h2, h3, h4⟩ := (mem_frees b k (first ++ [n]) l).1 hl
      refine ⟨n :: ns, by simp [h1], fun x hx => ?_, by simpa using h3, by simpa using h4⟩
      rcases List.mem_cons.1 hx with rfl | hx
      · exact hn2
      · exact h2 x hx
    · rintro ⟨ns, h1, h2, h3, h4⟩
      match ns, h1 with
      | n :: r, h1 =>
        refine ⟨n, List.mem_filter.2 ⟨List.mem_range.2 (h2 n (by simp)), by simp [isN]⟩, (mem_frees b k (first ++ [n]) l).2 ⟨r, by simpa using h1, fun x hx => h2 x (by simp [hx]), by simpa using h3, by simpa using h4⟩⟩

theorem mem_frNs (b : Bk) (l : List Nat) : l ∈ frNs b ↔ ∃ ns, ns.length = b.cords.length ∧ (∀ x ∈ ns, x < allN b) ∧ ns.sum < allN b ∧ l = ns ++ [ns.sum] := by
  unfold frNs
  rw [mem_frees]
  simp

/-! ### the cost, cord by cord -/
def kcost (B P : Nat) (cord : List Sp) (x : Nat) : Int := isum P fun p => costL (cord[p]?.getD default) ((x / B ^ (P - 1 - p) % B : Nat) : Int)

def sumK (B P : Nat) : List (List Sp) → List Nat → Int
  | c :: cs, x :: xs => kcost B P c x + sumK B P cs xs
  | _, _ => 0

theorem sumK_app (B P : Nat) : ∀ (A : List (List Sp)) (x : List Nat) (A' : List (List Sp)) (x' : List Nat), A.length = x.length → sumK B P (A ++ A') (x ++ x') = sumK B P A x + sumK B P A' x'
  | [], [], A', x', _ => by simp [sumK]
  | c :: A, y :: x, A', x', h => by
    simp only [List.cons_append, sumK]
    rw [sumK_app B P A x A' x' (by simpa using h)]
    omega
  | [], _ :: _, _, _, h => by simp at h
  | _ :: _, [], _, _, h => by simp at h

theorem isum_front (n : Nat) (f : Nat → Int) : isum (n + 1) f = f 0 + isum n fun i => f (i + 1) := by
  induction n with
  | zero => rw [isum_succ, isum_zero, isum_zero]; omega
  | succ n ih => rw [isum_succ, ih, isum_succ]; omega

theorem sumK_isum (B P : Nat) : ∀ (A : List (List Sp)) (x : List Nat), A.length = x.length → (isum A.length fun c => kcost B P (A[c]?.getD default) (x[c]?.getD default)) = sumK B P A x
  | [], [], _ => rfl
  | c :: A, y :: x, h => by
    rw [List.length_cons, isum_front]
    have := sumK_isum B P A x (by simpa using h)
    simp only [sumK]
    rw [← this]
    rfl
  | [], _ :: _, h => by simp at h
  | _ :: _, [], h => by simp at h

theorem costN_sumK (b : Bk) (ns : List Nat) (s : Nat) (h : ns.length = b.cords.length) : costN b (ns ++ [s]) = sumK b.base.toNat b.places.toNat b.cords ns + kcost b.base.toNat b.places.toNat b.top s := by
  unfold costN
  rw [isum_succ, ← sumK_isum _ _ _ _ h.symm]
  congr 1
  · refine isum_congr fun c hc => ?_
    unfold kcost cordSp cordAt dgN
    refine isum_congr fun p hp => ?_
    rw [if_neg (by omega), List.getElem?_append_left (by omega)]
  · unfold kcost cordSp cordAt dgN
    refine isum_congr fun p hp => ?_
    rw [if_pos rfl, List.getElem?_append_right (by omega), h, Nat.sub_self]
    rfl

theorem carN_ns (b : Bk) (ns : List Nat) (s p : Nat) (h : ns.length = b.cords.length) : carN b (ns ++ [s]) p = (ns.map (· % b.base.toNat ^ (b.places.toNat - p))).sum / b.base.toNat ^ (b.places.toNat - p) := by
  unfold carN
  rw [← h, List.take_left]

/-- What holds of the answers if the right readings go over into one another. -/
structure Same2 (b b' : Bk) (f g : List Nat → List Nat) : Prop where
  to : ∀ l ∈ allNs b, f l ∈ allNs b' ∧ g (f l) = l
  back : ∀ l ∈ allNs b', g l ∈ allNs b ∧ f (g l) = l

theorem Same2.len {b b' : Bk} {f g : List Nat → List Nat} (h : Same2 b b' f g) : (allNs b').length = (allNs b).length := by
  have h1 := len_of_maps (sums_nodup b false b.cords.length []) f g h.to
  have h2 := len_of_maps (sums_nodup b' false b'.cords.length []) g f h.back
  unfold allNs at *
  omega

theorem Same2.span {b b' : Bk} {f g : List Nat → List Nat} (h : Same2 b b' f g) (u u' : List Nat → Int) (h1 : ∀ l ∈ allNs b, u' (f l) = u l) (h0 : 0 < (allNs b).length) :
    spanL ((allNs b').map u') (allNs b').length = spanL ((allNs b).map u) (allNs b).length := by
  refine span_of_maps u u' h.len.symm (fun l hl => ⟨f l, (h.to l hl).1, h1 l hl⟩) (fun l hl => ⟨g l, (h.back l hl).1, ?_⟩) h0
  rw [← h1 _ (h.back l hl).1, (h.back l hl).2]

theorem ansS_same {b b' : Bk} (hc : checkB b = true) (hc' : checkB b' = true) {i i' : Bool} {v v' : Sp} (hl : (allNs b').length = (allNs b).length) (hi : i' = i) (hv : 0 < (allNs b).length → v' = v) : ansS b' i' v' = ansS b i v := by
  unfold ansS
  rw [hc, hc', hi, hl, if_pos rfl, if_pos rfl]
  split
  · split
    · rfl
    · rw [hv (by omega)]
  · rfl

theorem many_same {b b' : Bk} (hc : checkB b = true) (hc' : checkB b' = true) (hl : (allNs b').length = (allNs b).length) : manyR2 b' = manyR2 b := by
  unfold manyR2
  rw [hc, hc', hl]

theorem sure_same {b b' : Bk} {f g : List Nat → List Nat} (h : Same2 b b' f g) (hc : checkB b = true) (hc' : checkB b' = true) (c : Int) (c' : Int) (hw : within c' 0 b'.cords.length = within c 0 b.cords.length) (hv : ∀ l ∈ allNs b, (f l)[c'.toNat]?.getD default = l[c.toNat]?.getD default) : sureR b' c' = sureR b c := by
  unfold sureR
  refine ansS_same hc hc' h.len hw fun h0 => ?_
  unfold colS
  rw [List.take_length, List.take_length]
  exact h.span _ _ (fun l hl => by rw [hv l hl]) h0

theorem carr_same {b b' : Bk} {f g : List Nat → List Nat} (h : Same2 b b' f g) (hc : checkB b = true) (hc' : checkB b' = true) (p : Int) (hp : b'.places = b.places) (hv : ∀ l ∈ allNs b, carN b' (f l) p.toNat = carN b l p.toNat) : carrR b' p = carrR b p := by
  unfold carrR
  refine ansS_same hc hc' h.len (by rw [hp]) fun h0 => ?_
  unfold crS
  rw [List.take_length, List.take_length]
  exact h.span _ _ (fun l hl => by rw [hv l hl]) h0

theorem mem_allNs {b : Bk} (hv : Val b) (l : List Nat) : l ∈ allNs b ↔ l ∈ frNs b ∧ costN b l = 0 := by
  rw [allNs_fr hv, List.mem_filter, decide_eq_true_eq]

/-! ### the cords from another one on -/
def rotB (b : Bk) (k : Nat) : Bk := { b with cords := b.cords.drop k ++ b.cords.take k }

/-- The numbers likewise; the last one stays. -/
def rotL (n k : Nat) (l : List Nat) : List Nat := (l.take n).drop k ++ (l.take n).take k ++ l.drop n

theorem rotL_ns (n k : Nat) (ns : List Nat) (s : Nat) (h : ns.length = n) : rotL n k (ns ++ [s]) = ns.drop k ++ ns.take k ++ [s] := by
  subst h
  unfold rotL
  rw [List.take_left, List.drop_left]

theorem rot_rot {α : Type} (l : List α) (k : Nat) (hk : k ≤ l.length) : (l.drop k ++ l.take k).drop (l.length - k) ++ (l.drop k ++ l.take k).take (l.length - k) = l := by
  have e : l.length - k = (l.drop k).length := by simp
  rw [e, List.drop_left, List.take_left, List.take_append_drop]

theorem rot_len (b : Bk) (k : Nat) (hk : k ≤ b.cords.length) : (rotB b k).cords.length = b.cords.length := by
  unfold rotB
  simp only [List.length_append, List.length_drop, List.length_take]
  omega

theorem rotB_rotB (b : Bk) (k : Nat) (hk : k ≤ b.cords.length) : rotB (rotB b k) (b.cords.length - k) = b := by
  obtain ⟨base, places, cords, top⟩ := b
  simp only [rotB] at hk ⊢
  rw [rot_rot cords k hk]

theorem rot_val {b : Bk} (hv : Val b) (k : Nat) (hk : k ≤ b.cords.length) : Val (rotB b k) := by
  obtain ⟨h1, h2, h3, h4, h5, h6⟩ := hv
  refine ⟨h1, h2, by rw [rot_len b k hk]; exact h3, fun l hl => ?_, h5, h6⟩
  refine h4 l ?_
  unfold rotB at hl
  rcases List.mem_append.1 hl with h | h
  · exact List.mem_of_mem_drop h
  · exact List.mem_of_mem_take h

theorem rot_fr (b : Bk) (k : Nat) (hk : k ≤ b.cords.length) {l : List Nat} (hl : l ∈ frNs b) : rotL b.cords.length k l ∈ frNs (rotB b k) ∧ costN (rotB b k) (rotL b.cords.length k l) = costN b l ∧ rotL b.cords.length (b.cords.length - k) (rotL b.cords.length k l) = l := by
  obtain ⟨ns, h1, h2, h3, rfl⟩ := (mem_frNs b l).1 hl
  have hsum : (ns.drop k ++ ns.take k).sum = ns.sum := by
    rw [List.sum_append, Nat.add_comm, ← List.sum_append, List.take_append_drop]
  have hlen : (ns.drop k ++ ns.take k).length = b.cords.length := by
    simp only [List.length_append, List.length_drop, List.length_take]
    omega
  rw [rotL_ns _ _ _ _ h1]
  refine ⟨(mem_frNs _ _).2 ⟨ns.drop k ++ ns.take k, by rw [hlen, rot_len b k hk], fun x hx => ?_, by rw [hsum]; exact h3, by rw [hsum]⟩, ?_, ?_⟩
  · refine h2 x ?_
    rcases List.mem_append.1 hx with h | h
    · exact List.mem_of_mem_drop h
    · exact List.mem_of_mem_take h
  · rw [costN_sumK b ns _ h1, costN_sumK (rotB b k) _ _ (by rw [hlen, rot_len b k hk])]
    show sumK b.base.toNat b.places.toNat (b.cords.drop k ++ b.cords.take k) (ns.drop k ++ ns.take k) + kcost b.base.toNat b.places.toNat b.top ns.sum = _
    have hd : (b.cords.drop k).length = (ns.drop k).length := by simp [h1]
    have ht : (b.cords.take k).length = (ns.take k).length := by simp [h1]
    have := sumK_app b.base.toNat b.places.toNat (b.cords.take k) (ns.take k) (b.cords.drop k) (ns.drop k) ht
    rw [List.take_append_drop, List.take_append_drop] at this
    rw [sumK_app _ _ _ _ _ _ hd, this]
    omega
  · rw [rotL_ns _ _ _ _ hlen, ← h1, rot_rot ns k (by omega)]

theorem rot_same {b : Bk} (hv : Val b) (k : Nat) (hk : k ≤ b.cords.length) : Same2 b (rotB b k) (rotL b.cords.length k) (rotL b.cords.length (b.cords.length - k)) := by
  have hv' := rot_val hv k hk
  refine ⟨fun l hl => ?_, fun l hl => ?_⟩
  · obtain ⟨h1, h2⟩ := (mem_allNs hv l).1 hl
    obtain ⟨g1, g2, g3⟩ := rot_fr b k hk h1
    exact ⟨(mem_allNs hv' _).2 ⟨g1, by rw [g2, h2]⟩, g3⟩
  · obtain ⟨h1, h2⟩ := (mem_allNs hv' l).1 hl
    have hk' : b.cords.length - k ≤ (rotB b k).cords.length := by rw [rot_len b k hk]; omega
    obtain ⟨g1, g2, g3⟩ := rot_fr (rotB b k) (b.cords.length - k) hk' h1
    rw [rotB_rotB b k hk, rot_len b k hk] at g1
    rw [rotB_rotB b k hk, rot_len b k hk] at g2
    rw [rot_len b k hk, show b.cords.length - (b.cords.length - k) = k by omega] at g3
    exact ⟨(mem_allNs hv _).2 ⟨g1, by rw [g2, h2]⟩, g3⟩

theorem rot_least {b : Bk} (hv : Val b) (k : Nat) (hk : k ≤ b.cords.length) : leastB (rotB b k) = leastB b := by
  have hv' := rot_val hv k hk
  obtain ⟨g1, l, hl, g2⟩ := least_spec hv
  obtain ⟨g3, m, hm, g4⟩ := least_spec hv'
  obtain ⟨a1, a2, _⟩ := rot_fr b k hk hl
  have hk' : b.cords.length - k ≤ (rotB b k).cords.length := by rw [rot_len b k hk]; omega
  obtain ⟨b1, b2, _⟩ := rot_fr (rotB b k) (b.cords.length - k) hk' hm
  rw [rotB_rotB b k hk] at b1 b2
  have c1 := g3 _ a1
  have c2 := g1 _ b1
  omega

theorem rot_sure {b : Bk} (hv : Val b) (k : Nat) (hk : k ≤ b.cords.length) : sureR (rotB b k) b.cords.length = sureR b b.cords.length := by
  have hv' := rot_val hv k hk
  refine sure_same (rot_same hv k hk) (check_of_val hv) (check_of_val hv') _ _ (by rw [rot_len b k hk]) fun l hl => ?_
  obtain ⟨ns, h1, _, _, rfl⟩ := (mem_frNs b l).1 ((mem_allNs hv l).1 hl).1
  have hlen : (ns.drop k ++ ns.take k).length = b.cords.length := by
    simp only [List.length_append, List.length_drop, List.length_take]
    omega
  rw [rotL_ns _ _ _ _ h1, Int.toNat_natCast, List.getElem?_append_right (by omega), List.getElem?_append_right (by omega), h1, hlen]

theorem rot_carr {b : Bk} (hv : Val b) (k : Nat) (hk : k ≤ b.cords.length) (p : Int) : carrR (rotB b k) p = carrR b p := by
  have hv' := rot_val hv k hk
  refine carr_same (rot_same hv k hk) (check_of_val hv) (check_of_val hv') p rfl fun l hl => ?_
  obtain ⟨ns, h1, _, _, rfl⟩ := (mem_frNs b l).1 ((mem_allNs hv l).1 hl).1
  have hlen : (ns.drop k ++ ns.take k).length = b.cords.length := by
    simp only [List.length_append, List.length_drop, List.length_take]
    omega
  rw [rotL_ns _ _ _ _ h1, carN_ns b ns _ _ h1, carN_ns (rotB b k) _ _ _ (by rw [hlen, rot_len b k hk])]
  show (List.map (fun x => x % b.base.toNat ^ (b.places.toNat - p.toNat)) (ns.drop k ++ ns.take k)).sum / b.base.toNat ^ (b.places.toNat - p.toNat) = _
  rw [List.map_append, List.sum_append, Nat.add_comm, ← List.sum_append, ← List.map_append, List.take_append_drop]

/-! ### one more cord without knots -/
end Go.Proofs.Ytkkiipjfbebipaa

/- KnotsNothing. -/
set_option linter.unusedSimpArgs false
set_option linter.unusedVariables false
set_option linter.unnecessarySimpa false
namespace Go.Proofs.Ytkkiipjfbebipaa
open Go Go.V

end Go.Proofs.Ytkkiipjfbebipaa

/- KnotsOrder. -/
set_option linter.unusedSimpArgs false
set_option linter.unusedVariables false
set_option linter.unnecessarySimpa false
namespace Go.Proofs.Ytkkiipjfbebipaa
open Go Go.V

theorem rot_ix (i by_ n : Nat) : Int.tmod ((i : Int) + (by_ : Int)) (n : Int) = (((i + by_) % n : Nat) : Int) := rfl

theorem rot_ix1 (by_ n : Nat) : Int.tmod (1 + (by_ : Int)) (n : Int) = (((1 + by_) % n : Nat) : Int) := rot_ix 1 by_ n
theorem rot_ix2 (by_ n : Nat) : Int.tmod (2 + (by_ : Int)) (n : Int) = (((2 + by_) % n : Nat) : Int) := rot_ix 2 by_ n
theorem rot_ix3 (by_ n : Nat) : Int.tmod (3 + (by_ : Int)) (n : Int) = (((3 + by_) % n : Nat) : Int) := rot_ix 3 by_ n

theorem rot_rows (cords : List (List Sp)) (by_ : Nat) : cords.drop (by_ % cords.length) ++ cords.take (by_ % cords.length) = (List.range cords.length).map fun i => cords[(i + by_) % cords.length]?.getD default := by
  rcases Nat.eq_zero_or_pos cords.length with h0 | h0
  · obtain rfl := List.eq_nil_of_length_eq_zero h0
    simp
  · have hk : by_ % cords.length < cords.length := Nat.mod_lt _ h0
    apply List.ext_getElem
    · simp only [List.length_append, List.length_drop, List.length_take, List.length_map, List.length_range]
      omega
    · intro i h1 h2
      simp only [List.length_map, List.length_range] at h2
      rw [List.getElem_map, List.getElem_range]
      rcases Nat.lt_or_ge i (cords.length - by_ % cords.length) with h | h
      · rw [List.getElem_append_left (by simp; omega), List.getElem_drop]
        have e : (i + by_) % cords.length = by_ % cords.length + i := by
          rw [Nat.add_mod, Nat.mod_eq_of_lt h2, Nat.mod_eq_of_lt (by omega)]
          omega
        rw [e, List.getElem?_eq_getElem (by omega)]
        rfl
      · rw [List.getElem_append_right (by simp; omega), List.getElem_take]
        have e : (i + by_) % cords.length = i - (cords.length - by_ % cords.length) := by
          rw [Nat.add_mod, Nat.mod_eq_of_lt h2, Nat.mod_eq_sub_mod (by omega), Nat.mod_eq_of_lt (by omega)]
          omega
        have hl : (cords.drop (by_ % cords.length)).length = cords.length - by_ % cords.length := by simp
        rw [e, List.getElem?_eq_getElem (by omega)]
        simp only [hl, Option.getD_some]

theorem small_rot {b : Bk} (hv : Val b) (k : Nat) (hk : k ≤ b.cords.length) : Small (rotB b k) := by
  refine small_small ?_
  have h2 := hv.hp
  have ht := hv.top.1
  have hc := hv.hc
  simp only [hugeB, Bool.or_eq_false_iff, decide_eq_false_iff_not, List.any_eq_false, decide_eq_true_eq]
  refine ⟨by rw [rot_len b k hk]; omega, ?_, fun l h => ?_⟩
  · show ¬ (40 < (b.top.length : Int))
    omega
  · have hv' := rot_val hv k hk
    have := (hv'.cord l h).1
    have e : (rotB b k).places = b.places := rfl
    omega

theorem ord_facts (base places : Int) (cords : List (List Sp)) (top : List Sp) (hv : Val ⟨base, places, cords, top⟩) (hc0 : checkB ⟨base, places, cords, top⟩ = true) (bn : Nat) (h0 : 0 < cords.length) (p : Int) :
    Ctr Try.prog 34 [KB ⟨base, places, (List.range cords.length).map fun i => cords[(i + bn) % cords.length]?.getD default, top⟩] (.tup [.int (manyR2 ⟨base, places, cords, top⟩).1, .int (manyR2 ⟨base, places, cords, top⟩).2]) ∧
    Ctr Try.prog 23 [KB ⟨base, places, (List.range cords.length).map fun i => cords[(i + bn) % cords.length]?.getD default, top⟩] (.tup [.int (leastB ⟨base, places, cords, top⟩), .int 0]) ∧
    Ctr Try.prog 35 [KB ⟨base, places, (List.range cords.length).map fun i => cords[(i + bn) % cords.length]?.getD default, top⟩, .int cords.length] (.tup [SP (sureR ⟨base, places, cords, top⟩ cords.length).1, .int (sureR ⟨base, places, cords, top⟩ cords.length).2]) ∧
    Ctr Try.prog 47 [KB ⟨base, places, (List.range cords.length).map fun i => cords[(i + bn) % cords.length]?.getD default, top⟩, .int p] (.tup [SP (carrR ⟨base, places, cords, top⟩ p).1, .int (carrR ⟨base, places, cords, top⟩ p).2]) := by
  have hk : bn % cords.length ≤ cords.length := Nat.le_of_lt (Nat.mod_lt _ h0)
  have e : (⟨base, places, (List.range cords.length).map fun i => cords[(i + bn) % cords.length]?.getD default, top⟩ : Bk) = rotB ⟨base, places, cords, top⟩ (bn % cords.length) := by
    unfold rotB
    dsimp only
    rw [rot_rows]
  rw [e]
  have hv' := rot_val hv (bn % cords.length) hk
  have hc0' := check_of_val hv'
  have hs' := small_rot hv (bn % cords.length) hk
  have h1 := c34r _ hs'
  have h2 := c23k _ hs' hc0'
  have h3 := c35r _ hs' (cords.length : Int)
  have h4 := c47r _ hs' p
  rw [many_same hc0 hc0' (rot_same hv _ hk).len] at h1
  rw [rot_least hv _ hk] at h2
  rw [show sureR (rotB ⟨base, places, cords, top⟩ (bn % cords.length)) (cords.length : Int) = sureR ⟨base, places, cords, top⟩ (cords.length : Int) from rot_sure hv _ hk] at h3
  rw [rot_carr hv _ hk] at h4
  exact ⟨h1, h2, h3, h4⟩

theorem map_range1 {α : Type} (f : Nat → α) {m : Nat} (h : m = 1) : (List.range m).map f = [f 0] := by subst h; rfl
theorem map_range2 {α : Type} (f : Nat → α) {m : Nat} (h : m = 2) : (List.range m).map f = [f 0, f 1] := by subst h; rfl
theorem map_range3 {α : Type} (f : Nat → α) {m : Nat} (h : m = 3) : (List.range m).map f = [f 0, f 1, f 2] := by subst h; rfl
theorem map_range4 {α : Type} (f : Nat → α) {m : Nat} (h : m = 4) : (List.range m).map f = [f 0, f 1, f 2, f 3] := by subst h; rfl

theorem c10v0 (base places : Int) (cords : List (List Sp)) (top : List Sp) (hcl2 : cords.length = 0) (by_ : Int) (n c p : Int) : Ctr Try.prog 10 [KB ⟨base, places, cords, top⟩, .int by_, .agg [.int n, .int c, .int p]] (.bool true) := by
  refine ctr_of_wp hmix Try.func10 m10g rfl ?_
  unfold v10g
  have h1 : cords.length < 9223372036854775808 := by omega
  simp -failIfUnchanged (disch := first | omega | (simp [wcs_len] <;> omega) | fail) only [go_sem, simprocAttr]
  refine wcall (c28 ⟨base, places, cords, top⟩ h1) ?_
  cases hr : (!hugeB ⟨base, places, cords, top⟩ && checkB ⟨base, places, cords, top⟩) with
  | false =>
    simp -failIfUnchanged (disch := first | omega | (simp [wcs_len] <;> omega) | fail) only [go_sem, simprocAttr]
    refine wcall c17 ?_
    simp -failIfUnchanged (disch := first | omega | (simp [wcs_len] <;> omega) | fail) only [go_sem, simprocAttr]
  | true =>
    simp only [Bool.and_eq_true, Bool.not_eq_true'] at hr
    obtain ⟨hh, hc0⟩ := hr
    have hs := small_small hh
    have hv := val_of_check hc0
    have hcl : cords.length ≤ 4 := hv.hc
    have hpl : 1 ≤ places ∧ places ≤ 4 := hv.hp
    have hrw : ∀ l ∈ cords, (l.length : Int) = places := fun l hl => (hv.cord l hl).1
    have htp : (top.length : Int) = places := hv.top.1
    have hrow : ∀ i, i < cords.length → ((cords[i]?.getD default).length : Int) = places := fun i hi => hrw _ (mem_getD hi)
    simp -failIfUnchanged (disch := first | omega | (simp [wcs_len] <;> omega) | fail) only [go_sem, simprocAttr]
    refine WGd_bool (fun h3 => ?_) (fun h3 => ?_)
    · simp -failIfUnchanged (disch := first | omega | (simp [wcs_len] <;> omega) | fail) only [go_sem, simprocAttr, h3]
      refine WGd_bool (fun h4 => ?_) (fun h4 => ?_)
      · simp -failIfUnchanged (disch := first | omega | (simp [wcs_len] <;> omega) | fail) only [go_sem, simprocAttr, h4]
        refine wcall (c30 ⟨base, places, cords, top⟩ p) ?_
        cases h5 : within p 0 (w64 (places - 1)) with
        | false =>
          simp -failIfUnchanged (disch := first | omega | (simp [wcs_len] <;> omega) | fail) only [go_sem, simprocAttr]
          refine wcall c17 ?_
          simp -failIfUnchanged (disch := first | omega | (simp [wcs_len] <;> omega) | fail) only [go_sem, simprocAttr]
        | true =>
          obtain ⟨bn, rfl, hbn⟩ : ∃ bn : Nat, by_ = bn ∧ bn ≤ 100 := ⟨by_.toNat, by simp at h3 h4; omega, by simp at h3 h4; omega⟩
          simp -failIfUnchanged (disch := first | omega | (simp [wcs_len] <;> omega) | fail) only [go_sem, simprocAttr]
          refine wcall_in hmix Try.func18 m18g rfl ?_
          unfold v18g
          simp -failIfUnchanged (disch := first | omega | (simp [wcs_len] <;> omega) | fail) only [go_sem, simprocAttr]
          refine wp_loopX Nat (stC base places cords top [(3, ⟨[.int base, .int places, .sl 1 (cords.map SS) .sh, SS top], false⟩), (5, ⟨[.int n, .int c, .int p], false⟩)]) (fun i => i ≤ cords.length) (fun i => cords.length - i) 0 (by simp) (by unfold stC restC ccC; simp -failIfUnchanged (disch := first | omega | (simp [wcs_len] <;> omega) | fail) only [go_sem, simprocAttr]; try simp) (fun i => by unfold stC; simp -failIfUnchanged (disch := first | omega | (simp [wcs_len] <;> omega) | fail) only [go_sem, simprocAttr]; try simp) ?_
          generalize hS : stC base places cords top [(3, ⟨[.int base, .int places, .sl 1 (cords.map SS) .sh, SS top], false⟩), (5, ⟨[.int n, .int c, .int p], false⟩)] = S
          have hSi := fun i => congrFun hS i
          intro i hi
          have h9 : i = 0 := by omega
          rcases h9 with rfl
          · have hs0 := hSi 0
            simp only [stC, restC, ccC, cellsC, rowsC, List.cons_append, List.nil_append] at hs0
            rw [← hs0]
            simp -failIfUnchanged (disch := first | omega | (simp [wcs_len] <;> omega) | fail) only [go_sem, simprocAttr]
            refine wcond_dec (fun h => ?_) (fun h => ?_)
            · omega
            · skip
              clear hS hSi hs0
              obtain rfl := exL0 hcl2
              simp -failIfUnchanged (disch := first | omega | (simp [wcs_len] <;> omega) | fail) only [go_sem, simprocAttr]
              refine wp_loop' Nat (fun j => ⟨[(1, .int (bn : Nat)), (3, .ptr 3 0), (5, .ptr 5 0), (7, .ptr 7 0), (8, .int (j : Nat))],
                [(7, ⟨[.int base, .int places, .sl 1 [] .full, .gsl 1 0 0 2 top.length true], false⟩), (3, ⟨[.int base, .int places, .sl 1 [] .sh, SS top], false⟩), (5, ⟨[.int n, .int c, .int p], false⟩), (K 1 0 0, ⟨flat (top.map SP), false⟩)], [], none⟩)
                (fun j => j ≤ 0) (fun j => 0 - j) 0 (by omega) (by simp -failIfUnchanged (disch := first | omega | (simp [wcs_len] <;> omega) | fail) only [go_sem, simprocAttr]; try simp) ?_
              intro j hj
              obtain rfl : j = 0 := by have : j ≤ 0 := hj; omega
              simp -failIfUnchanged (disch := first | omega | (simp [wcs_len] <;> omega) | fail) only [go_sem, simprocAttr]
              refine wcall (c34r _ hs) ?_
              simp -failIfUnchanged (disch := first | omega | (simp [wcs_len] <;> omega) | fail) only [go_sem, simprocAttr]
              refine wopsN [K 1 0 0] ?_
              simp -failIfUnchanged (disch := first | omega | (simp [wcs_len] <;> omega) | fail) only [go_sem, simprocAttr, Nat.le_refl]
              simp only [chunks_flat0]
              have k34 := c34r _ hs
              have k23 := c23k _ hs hc0
              have k35 := c35r _ hs ((0 : Nat) : Int)
              have k47 := c47r _ hs p
              refine wcall k34 ?_
              simp -failIfUnchanged (disch := first | omega | (simp [wcs_len] <;> omega) | fail) only [go_sem, simprocAttr]
              refine wcall (c23k _ hs hc0) ?_
              simp -failIfUnchanged (disch := first | omega | (simp [wcs_len] <;> omega) | fail) only [go_sem, simprocAttr]
              refine wcall k23 ?_
              simp -failIfUnchanged (disch := first | omega | (simp [wcs_len] <;> omega) | fail) only [go_sem, simprocAttr, eq_self, not_true_eq_false]
              refine wcall (c35r _ hs _) ?_
              simp -failIfUnchanged (disch := first | omega | (simp [wcs_len] <;> omega) | fail) only [go_sem, simprocAttr]
              refine wcall k35 ?_
              simp -failIfUnchanged (disch := first | omega | (simp [wcs_len] <;> omega) | fail) only [go_sem, simprocAttr]
              refine wcall (c47r _ hs p) ?_
              simp -failIfUnchanged (disch := first | omega | (simp [wcs_len] <;> omega) | fail) only [go_sem, simprocAttr]
              refine wcall k47 ?_
              simp -failIfUnchanged (disch := first | omega | (simp [wcs_len] <;> omega) | fail) only [go_sem, simprocAttr, eq_self]
              refine wcall c17 ?_
              simp -failIfUnchanged (disch := first | omega | (simp [wcs_len] <;> omega) | fail) only [go_sem, simprocAttr]
      · simp -failIfUnchanged (disch := first | omega | (simp [wcs_len] <;> omega) | fail) only [go_sem, simprocAttr, h4]
        refine wcall c17 ?_
        simp -failIfUnchanged (disch := first | omega | (simp [wcs_len] <;> omega) | fail) only [go_sem, simprocAttr]
    · simp -failIfUnchanged (disch := first | omega | (simp [wcs_len] <;> omega) | fail) only [go_sem, simprocAttr, h3]
      refine wcall c17 ?_
      simp -failIfUnchanged (disch := first | omega | (simp [wcs_len] <;> omega) | fail) only [go_sem, simprocAttr]
theorem c10v1 (base places : Int) (cords : List (List Sp)) (top : List Sp) (hcl2 : cords.length = 1) (by_ : Int) (n c p : Int) : Ctr Try.prog 10 [KB ⟨base, places, cords, top⟩, .int by_, .agg [.int n, .int c, .int p]] (.bool true) := by
  refine ctr_of_wp hmix Try.func10 m10g rfl ?_
  unfold v10g
  have h1 : cords.length < 9223372036854775808 := by omega
  simp -failIfUnchanged (disch := first | omega | (simp [wcs_len] <;> omega) | fail) only [go_sem, simprocAttr]
  refine wcall (c28 ⟨base, places, cords, top⟩ h1) ?_
  cases hr : (!hugeB ⟨base, places, cords, top⟩ && checkB ⟨base, places, cords, top⟩) with
  | false =>
    simp -failIfUnchanged (disch := first | omega | (simp [wcs_len] <;> omega) | fail) only [go_sem, simprocAttr]
    refine wcall c17 ?_
    simp -failIfUnchanged (disch := first | omega | (simp [wcs_len] <;> omega) | fail) only [go_sem, simprocAttr]
  | true =>
    simp only [Bool.and_eq_true, Bool.not_eq_true'] at hr
    obtain ⟨hh, hc0⟩ := hr
    have hs := small_small hh
    have hv := val_of_check hc0
    have hcl : cords.length ≤ 4 := hv.hc
    have hpl : 1 ≤ places ∧ places ≤ 4 := hv.hp
    have hrw : ∀ l ∈ cords, (l.length : Int) = places := fun l hl => (hv.cord l hl).1
    have htp : (top.length : Int) = places := hv.top.1
    have hrow : ∀ i, i < cords.length → ((cords[i]?.getD default).length : Int) = places := fun i hi => hrw _ (mem_getD hi)
    simp -failIfUnchanged (disch := first | omega | (simp [wcs_len] <;> omega) | fail) only [go_sem, simprocAttr]
    refine WGd_bool (fun h3 => ?_) (fun h3 => ?_)
    · simp -failIfUnchanged (disch := first | omega | (simp [wcs_len] <;> omega) | fail) only [go_sem, simprocAttr, h3]
      refine WGd_bool (fun h4 => ?_) (fun h4 => ?_)
      · simp -failIfUnchanged (disch := first | omega | (simp [wcs_len] <;> omega) | fail) only [go_sem, simprocAttr, h4]
        refine wcall (c30 ⟨base, places, cords, top⟩ p) ?_
        cases h5 : within p 0 (w64 (places - 1)) with
        | false =>
          simp -failIfUnchanged (disch := first | omega | (simp [wcs_len] <;> omega) | fail) only [go_sem, simprocAttr]
          refine wcall c17 ?_
          simp -failIfUnchanged (disch := first | omega | (simp [wcs_len] <;> omega) | fail) only [go_sem, simprocAttr]
        | true =>
          obtain ⟨bn, rfl, hbn⟩ : ∃ bn : Nat, by_ = bn ∧ bn ≤ 100 := ⟨by_.toNat, by simp at h3 h4; omega, by simp at h3 h4; omega⟩
          simp -failIfUnchanged (disch := first | omega | (simp [wcs_len] <;> omega) | fail) only [go_sem, simprocAttr]
          refine wcall_in hmix Try.func18 m18g rfl ?_
          unfold v18g
          simp -failIfUnchanged (disch := first | omega | (simp [wcs_len] <;> omega) | fail) only [go_sem, simprocAttr]
          refine wp_loopX Nat (stC base places cords top [(3, ⟨[.int base, .int places, .sl 1 (cords.map SS) .sh, SS top], false⟩), (5, ⟨[.int n, .int c, .int p], false⟩)]) (fun i => i ≤ cords.length) (fun i => cords.length - i) 0 (by simp) (by unfold stC restC ccC; simp -failIfUnchanged (disch := first | omega | (simp [wcs_len] <;> omega) | fail) only [go_sem, simprocAttr]; try simp) (fun i => by unfold stC; simp -failIfUnchanged (disch := first | omega | (simp [wcs_len] <;> omega) | fail) only [go_sem, simprocAttr]; try simp) ?_
          generalize hS : stC base places cords top [(3, ⟨[.int base, .int places, .sl 1 (cords.map SS) .sh, SS top], false⟩), (5, ⟨[.int n, .int c, .int p], false⟩)] = S
          have hSi := fun i => congrFun hS i
          intro i hi
          have h9 : i = 0 ∨ i = 1 := by omega
          rcases h9 with rfl | rfl
          · have hs0 := hSi 0
            simp only [stC, restC, ccC, cellsC, rowsC, List.cons_append, List.nil_append] at hs0
            rw [← hs0]
            simp -failIfUnchanged (disch := first | omega | (simp [wcs_len] <;> omega) | fail) only [go_sem, simprocAttr]
            refine wcond_dec (fun h => ?_) (fun h => ?_)
            · have hlt : 0 < cords.length := by omega
              have hr0 := hrow 0 hlt
              simp -failIfUnchanged (disch := first | omega | (simp [wcs_len] <;> omega) | fail) only [go_sem, simprocAttr]
              refine lpx_norm ⟨1, by omega, by omega, ?_⟩
              have ht := hSi 1
              simp only [stC, restC, ccC, cellsC, rowsC, List.cons_append, List.nil_append] at ht
              rw [← ht]
              simp -failIfUnchanged (disch := first | omega | (simp [wcs_len] <;> omega) | fail) only [go_sem, simprocAttr]
              try simp
            · omega
          · have hs0 := hSi 1
            simp only [stC, restC, ccC, cellsC, rowsC, List.cons_append, List.nil_append] at hs0
            rw [← hs0]
            simp -failIfUnchanged (disch := first | omega | (simp [wcs_len] <;> omega) | fail) only [go_sem, simprocAttr]
            refine wcond_dec (fun h => ?_) (fun h => ?_)
            · omega
            · skip
              clear hS hSi hs0
              obtain ⟨k34, k23, k35, k47⟩ := ord_facts base places cords top hv hc0 bn (by omega) p
              rw [map_range1 _ hcl2] at k34 k23 k35 k47
              simp only [Nat.zero_add] at k34 k23 k35 k47
              obtain ⟨x0, hx0, hm0⟩ : ∃ x : Nat, bn % cords.length = x ∧ x < cords.length := ⟨_, rfl, Nat.mod_lt _ (by omega)⟩
              have hq0 := hrow _ hm0
              have hp0 := hrow 0 (by omega)
              simp only [hx0] at k34 k23 k35 k47
              simp -failIfUnchanged (disch := first | omega | (simp [wcs_len] <;> omega) | fail) only [go_sem, simprocAttr]
              refine wp_loop' Nat (fun j => match j with
                | 0 => ⟨[(1, .int (bn : Nat)), (3, .ptr 3 0), (5, .ptr 5 0), (7, .ptr 7 0), (8, .int (0 : Nat))],
                  [(7, ⟨[.int base, .int places, .gsl 3 0 0 1 1 false, .gsl 1 0 0 2 top.length true], false⟩), (3, ⟨[.int base, .int places, .sl 1 (cords.map SS) .sh, SS top], false⟩), (5, ⟨[.int n, .int c, .int p], false⟩), (K 3 0 0, ⟨[.gsl 2 0 0 2 (cords[0]?.getD default).length true], false⟩), (K 1 0 0, ⟨flat (top.map SP), false⟩), (K 2 0 0, ⟨flat ((cords[0]?.getD default).map SP), false⟩)], [], none⟩
                | _ => ⟨[(1, .int (bn : Nat)), (3, .ptr 3 0), (5, .ptr 5 0), (7, .ptr 7 0), (8, .int (1 : Nat))],
                  [(7, ⟨[.int base, .int places, .gsl 3 0 0 1 1 false, .gsl 1 0 0 2 top.length true], false⟩), (3, ⟨[.int base, .int places, .sl 1 (cords.map SS) .sh, SS top], false⟩), (5, ⟨[.int n, .int c, .int p], false⟩), (K 3 0 0, ⟨[.gsl 5 0 0 2 (cords[x0]?.getD default).length true], false⟩), (K 1 0 0, ⟨flat (top.map SP), false⟩), (K 5 0 0, ⟨flat ((cords[x0]?.getD default).map SP), false⟩), (K 2 0 0, ⟨flat ((cords[0]?.getD default).map SP), false⟩)], [], none⟩)
                (fun j => j ≤ 1) (fun j => 1 - j) 0 (by omega) (by simp -failIfUnchanged (disch := first | omega | (simp [wcs_len] <;> omega) | fail) only [go_sem, simprocAttr]; try simp) ?_
              intro j hj
              have hj9 : j = 0 ∨ j = 1 := by have : j ≤ 1 := hj; omega
              clear hj
              rcases hj9 with rfl | rfl
              · try dsimp only
                simp -failIfUnchanged (disch := first | omega | (simp [wcs_len] <;> omega) | fail) only [go_sem, simprocAttr, hx0]
                refine wcond_dec (fun h6 => ?_) (fun h6 => ?_)
                · simp -failIfUnchanged (disch := first | omega | (simp [wcs_len] <;> omega) | fail) only [go_sem, simprocAttr, hx0]
                  refine ⟨1, by omega, by (try dsimp only); omega, ?_⟩
                  try dsimp only
                  simp -failIfUnchanged (disch := first | omega | (simp [wcs_len] <;> omega) | fail) only [go_sem, simprocAttr]
                  try simp
                · omega
              · try dsimp only
                simp -failIfUnchanged (disch := first | omega | (simp [wcs_len] <;> omega) | fail) only [go_sem, simprocAttr, hx0]
                refine wcond_dec (fun h6 => ?_) (fun h6 => ?_)
                · omega
                · simp -failIfUnchanged (disch := first | omega | (simp [wcs_len] <;> omega) | fail) only [go_sem, simprocAttr]
                  refine wcall (c34r _ hs) ?_
                  simp -failIfUnchanged (disch := first | omega | (simp [wcs_len] <;> omega) | fail) only [go_sem, simprocAttr]
                  refine wopsN [K 1 0 0, K 2 0 0, K 5 0 0, K 3 0 0] ?_
                  simp -failIfUnchanged (disch := first | omega | (simp [wcs_len] <;> omega) | fail) only [go_sem, simprocAttr, Nat.le_refl]
                  simp only [chunks_flat0, if_true, chunks, chunk, Nat.zero_add, List.getElem?_cons_zero, List.getElem?_cons_succ, Option.getD_some, Nat.reduceAdd, Bool.false_eq_true, if_false]
                  refine wcall k34 ?_
                  simp -failIfUnchanged (disch := first | omega | (simp [wcs_len] <;> omega) | fail) only [go_sem, simprocAttr]
                  refine wcall (c23k _ hs hc0) ?_
                  simp -failIfUnchanged (disch := first | omega | (simp [wcs_len] <;> omega) | fail) only [go_sem, simprocAttr]
                  refine wcall k23 ?_
                  simp -failIfUnchanged (disch := first | omega | (simp [wcs_len] <;> omega) | fail) only [go_sem, simprocAttr, eq_self, not_true_eq_false]
                  refine wcall (c35r _ hs _) ?_
                  simp -failIfUnchanged (disch := first | omega | (simp [wcs_len] <;> omega) | fail) only [go_sem, simprocAttr]
                  refine wcall k35 ?_
                  simp -failIfUnchanged (disch := first | omega | (simp [wcs_len] <;> omega) | fail) only [go_sem, simprocAttr]
                  refine wcall (c47r _ hs p) ?_
                  simp -failIfUnchanged (disch := first | omega | (simp [wcs_len] <;> omega) | fail) only [go_sem, simprocAttr]
                  refine wcall k47 ?_
                  simp -failIfUnchanged (disch := first | omega | (simp [wcs_len] <;> omega) | fail) only [go_sem, simprocAttr, eq_self]
                  refine wcall c17 ?_
                  simp -failIfUnchanged (disch := first | omega | (simp [wcs_len] <;> omega) | fail) only [go_sem, simprocAttr]
      · simp -failIfUnchanged (disch := first | omega | (simp [wcs_len] <;> omega) | fail) only [go_sem, simprocAttr, h4]
        refine wcall c17 ?_
        simp -failIfUnchanged (disch := first | omega | (simp [wcs_len] <;> omega) | fail) only [go_sem, simprocAttr]
    · simp -failIfUnchanged (disch := first | omega | (simp [wcs_len] <;> omega) | fail) only [go_sem, simprocAttr, h3]
      refine wcall c17 ?_
      simp -failIfUnchanged (disch := first | omega | (simp [wcs_len] <;> omega) | fail) only [go_sem, simprocAttr]
theorem c10v2 (base places : Int) (cords : List (List Sp)) (top : List Sp) (hcl2 : cords.length = 2) (by_ : Int) (n c p : Int) : Ctr Try.prog 10 [KB ⟨base, places, cords, top⟩, .int by_, .agg [.int n, .int c, .int p]] (.bool true) := by
  refine ctr_of_wp hmix Try.func10 m10g rfl ?_
  unfold v10g
  have h1 : cords.length < 9223372036854775808 := by omega
  simp -failIfUnchanged (disch := first | omega | (simp [wcs_len] <;> omega) | fail) only [go_sem, simprocAttr]
  refine wcall (c28 ⟨base, places, cords, top⟩ h1) ?_
  cases hr : (!hugeB ⟨base, places, cords, top⟩ && checkB ⟨base, places, cords, top⟩) with
  | false =>
    simp -failIfUnchanged (disch := first | omega | (simp [wcs_len] <;> omega) | fail) only [go_sem, simprocAttr]
    refine wcall c17 ?_
    simp -failIfUnchanged (disch := first | omega | (simp [wcs_len] <;> omega) | fail) only [go_sem, simprocAttr]
  | true =>
    simp only [Bool.and_eq_true, Bool.not_eq_true'] at hr
    obtain ⟨hh, hc0⟩ := hr
    have hs := small_small hh
    have hv := val_of_check hc0
    have hcl : cords.length ≤ 4 := hv.hc
    have hpl : 1 ≤ places ∧ places ≤ 4 := hv.hp
    have hrw : ∀ l ∈ cords, (l.length : Int) = places := fun l hl => (hv.cord l hl).1
    have htp : (top.length : Int) = places := hv.top.1
    have hrow : ∀ i, i < cords.length → ((cords[i]?.getD default).length : Int) = places := fun i hi => hrw _ (mem_getD hi)
    simp -failIfUnchanged (disch := first | omega | (simp [wcs_len] <;> omega) | fail) only [go_sem, simprocAttr]
    refine WGd_bool (fun h3 => ?_) (fun h3 => ?_)
    · simp -failIfUnchanged (disch := first | omega | (simp [wcs_len] <;> omega) | fail) only [go_sem, simprocAttr, h3]
      refine WGd_bool (fun h4 => ?_) (fun h4 => ?_)
      · simp -failIfUnchanged (disch := first | omega | (simp [wcs_len] <;> omega) | fail) only [go_sem, simprocAttr, h4]
        refine wcall (c30 ⟨base, places, cords, top⟩ p) ?_
        cases h5 : within p 0 (w64 (places - 1)) with
        | false =>
          simp -failIfUnchanged (disch := first | omega | (simp [wcs_len] <;> omega) | fail) only [go_sem, simprocAttr]
          refine wcall c17 ?_
          simp -failIfUnchanged (disch := first | omega | (simp [wcs_len] <;> omega) | fail) only [go_sem, simprocAttr]
        | true =>
          obtain ⟨bn, rfl, hbn⟩ : ∃ bn : Nat, by_ = bn ∧ bn ≤ 100 := ⟨by_.toNat, by simp at h3 h4; omega, by simp at h3 h4; omega⟩
          simp -failIfUnchanged (disch := first | omega | (simp [wcs_len] <;> omega) | fail) only [go_sem, simprocAttr]
          refine wcall_in hmix Try.func18 m18g rfl ?_
          unfold v18g
          simp -failIfUnchanged (disch := first | omega | (simp [wcs_len] <;> omega) | fail) only [go_sem, simprocAttr]
          refine wp_loopX Nat (stC base places cords top [(3, ⟨[.int base, .int places, .sl 1 (cords.map SS) .sh, SS top], false⟩), (5, ⟨[.int n, .int c, .int p], false⟩)]) (fun i => i ≤ cords.length) (fun i => cords.length - i) 0 (by simp) (by unfold stC restC ccC; simp -failIfUnchanged (disch := first | omega | (simp [wcs_len] <;> omega) | fail) only [go_sem, simprocAttr]; try simp) (fun i => by unfold stC; simp -failIfUnchanged (disch := first | omega | (simp [wcs_len] <;> omega) | fail) only [go_sem, simprocAttr]; try simp) ?_
          generalize hS : stC base places cords top [(3, ⟨[.int base, .int places, .sl 1 (cords.map SS) .sh, SS top], false⟩), (5, ⟨[.int n, .int c, .int p], false⟩)] = S
          have hSi := fun i => congrFun hS i
          intro i hi
          have h9 : i = 0 ∨ i = 1 ∨ i = 2 := by omega
          rcases h9 with rfl | rfl | rfl
          · have hs0 := hSi 0
            simp only [stC, restC, ccC, cellsC, rowsC, List.cons_append, List.nil_append] at hs0
            rw [← hs0]
            simp -failIfUnchanged (disch := first | omega | (simp [wcs_len] <;> omega) | fail) only [go_sem, simprocAttr]
            refine wcond_dec (fun h => ?_) (fun h => ?_)
            · have hlt : 0 < cords.length := by omega
              have hr0 := hrow 0 hlt
              simp -failIfUnchanged (disch := first | omega | (simp [wcs_len] <;> omega) | fail) only [go_sem, simprocAttr]
              refine lpx_norm ⟨1, by omega, by omega, ?_⟩
              have ht := hSi 1
              simp only [stC, restC, ccC, cellsC, rowsC, List.cons_append, List.nil_append] at ht
              rw [← ht]
              simp -failIfUnchanged (disch := first | omega | (simp [wcs_len] <;> omega) | fail) only [go_sem, simprocAttr]
              try simp
            · omega
          · have hs0 := hSi 1
            simp only [stC, restC, ccC, cellsC, rowsC, List.cons_append, List.nil_append] at hs0
            rw [← hs0]
            simp -failIfUnchanged (disch := first | omega | (simp [wcs_len] <;> omega) | fail) only [go_sem, simprocAttr]
            refine wcond_dec (fun h => ?_) (fun h => ?_)
            · have hlt : 1 < cords.length := by omega
              have hr0 := hrow 1 hlt
              simp -failIfUnchanged (disch := first | omega | (simp [wcs_len] <;> omega) | fail) only [go_sem, simprocAttr]
              refine lpx_norm ⟨2, by omega, by omega, ?_⟩
              have ht := hSi 2
              simp only [stC, restC, ccC, cellsC, rowsC, List.cons_append, List.nil_append] at ht
              rw [← ht]
              simp -failIfUnchanged (disch := first | omega | (simp [wcs_len] <;> omega) | fail) only [go_sem, simprocAttr]
              try simp
            · omega
          · have hs0 := hSi 2
            simp only [stC, restC, ccC, cellsC, rowsC, List.cons_append, List.nil_append] at hs0
            rw [← hs0]
            simp -failIfUnchanged (disch := first | omega | (simp [wcs_len] <;> omega) | fail) only [go_sem, simprocAttr]
            refine wcond_dec (fun h => ?_) (fun h => ?_)
            · omega
            · skip
              clear hS hSi hs0
              obtain ⟨k34, k23, k35, k47⟩ := ord_facts base places cords top hv hc0 bn (by omega) p
              rw [map_range2 _ hcl2] at k34 k23 k35 k47
              simp only [Nat.zero_add] at k34 k23 k35 k47
              obtain ⟨x0, hx0, hm0⟩ : ∃ x : Nat, bn % cords.length = x ∧ x < cords.length := ⟨_, rfl, Nat.mod_lt _ (by omega)⟩
              have hq0 := hrow _ hm0
              have hp0 := hrow 0 (by omega)
              obtain ⟨x1, hx1, hm1⟩ : ∃ x : Nat, (1 + bn) % cords.length = x ∧ x < cords.length := ⟨_, rfl, Nat.mod_lt _ (by omega)⟩
              have ri1 : Int.tmod (1 + (bn : Int)) (cords.length : Int) = ((x1 : Nat) : Int) := by rw [rot_ix1, hx1]
              have hq1 := hrow _ hm1
              have hp1 := hrow 1 (by omega)
              simp only [hx0, hx1] at k34 k23 k35 k47
              simp -failIfUnchanged (disch := first | omega | (simp [wcs_len] <;> omega) | fail) only [go_sem, simprocAttr]
              refine wp_loop' Nat (fun j => match j with
                | 0 => ⟨[(1, .int (bn : Nat)), (3, .ptr 3 0), (5, .ptr 5 0), (7, .ptr 7 0), (8, .int (0 : Nat))],
                  [(7, ⟨[.int base, .int places, .gsl 3 0 1 1 2 false, .gsl 1 0 0 2 top.length true], false⟩), (3, ⟨[.int base, .int places, .sl 1 (cords.map SS) .sh, SS top], false⟩), (5, ⟨[.int n, .int c, .int p], false⟩), (K 3 0 1, ⟨[.gsl 2 0 0 2 (cords[0]?.getD default).length true, .gsl 2 1 0 2 (cords[1]?.getD default).length true], false⟩), (K 1 0 0, ⟨flat (top.map SP), false⟩), (K 2 0 0, ⟨flat ((cords[0]?.getD default).map SP), false⟩), (K 2 1 0, ⟨flat ((cords[1]?.getD default).map SP), false⟩)], [], none⟩
                | 1 => ⟨[(1, .int (bn : Nat)), (3, .ptr 3 0), (5, .ptr 5 0), (7, .ptr 7 0), (8, .int (1 : Nat))],
                  [(7, ⟨[.int base, .int places, .gsl 3 0 1 1 2 false, .gsl 1 0 0 2 top.length true], false⟩), (3, ⟨[.int base, .int places, .sl 1 (cords.map SS) .sh, SS top], false⟩), (5, ⟨[.int n, .int c, .int p], false⟩), (K 3 0 1, ⟨[.gsl 5 0 0 2 (cords[x0]?.getD default).length true, .gsl 2 1 0 2 (cords[1]?.getD default).length true], false⟩), (K 1 0 0, ⟨flat (top.map SP), false⟩), (K 5 0 0, ⟨flat ((cords[x0]?.getD default).map SP), false⟩), (K 2 0 0, ⟨flat ((cords[0]?.getD default).map SP), false⟩), (K 2 1 0, ⟨flat ((cords[1]?.getD default).map SP), false⟩)], [], none⟩
                | _ => ⟨[(1, .int (bn : Nat)), (3, .ptr 3 0), (5, .ptr 5 0), (7, .ptr 7 0), (8, .int (2 : Nat))],
                  [(7, ⟨[.int base, .int places, .gsl 3 0 1 1 2 false, .gsl 1 0 0 2 top.length true], false⟩), (3, ⟨[.int base, .int places, .sl 1 (cords.map SS) .sh, SS top], false⟩), (5, ⟨[.int n, .int c, .int p], false⟩), (K 3 0 1, ⟨[.gsl 5 0 0 2 (cords[x0]?.getD default).length true, .gsl 5 1 0 2 (cords[x1]?.getD default).length true], false⟩), (K 1 0 0, ⟨flat (top.map SP), false⟩), (K 5 0 0, ⟨flat ((cords[x0]?.getD default).map SP), false⟩), (K 5 1 0, ⟨flat ((cords[x1]?.getD default).map SP), false⟩), (K 2 0 0, ⟨flat ((cords[0]?.getD default).map SP), false⟩), (K 2 1 0, ⟨flat ((cords[1]?.getD default).map SP), false⟩)], [], none⟩)
                (fun j => j ≤ 2) (fun j => 2 - j) 0 (by omega) (by simp -failIfUnchanged (disch := first | omega | (simp [wcs_len] <;> omega) | fail) only [go_sem, simprocAttr]; try simp) ?_
              intro j hj
              have hj9 : j = 0 ∨ j = 1 ∨ j = 2 := by have : j ≤ 2 := hj; omega
              clear hj
              rcases hj9 with rfl | rfl | rfl
              · try dsimp only
                simp -failIfUnchanged (disch := first | omega | (simp [wcs_len] <;> omega) | fail) only [go_sem, simprocAttr, hx0, ri1]
                refine wcond_dec (fun h6 => ?_) (fun h6 => ?_)
                · simp -failIfUnchanged (disch := first | omega | (simp [wcs_len] <;> omega) | fail) only [go_sem, simprocAttr, hx0, ri1]
                  refine ⟨1, by omega, by (try dsimp only); omega, ?_⟩
                  try dsimp only
                  simp -failIfUnchanged (disch := first | omega | (simp [wcs_len] <;> omega) | fail) only [go_sem, simprocAttr]
                  try simp
                · omega
              · try dsimp only
                simp -failIfUnchanged (disch := first | omega | (simp [wcs_len] <;> omega) | fail) only [go_sem, simprocAttr, hx0, ri1]
                refine wcond_dec (fun h6 => ?_) (fun h6 => ?_)
                · simp -failIfUnchanged (disch := first | omega | (simp [wcs_len] <;> omega) | fail) only [go_sem, simprocAttr, hx0, ri1]
                  refine ⟨2, by omega, by (try dsimp only); omega, ?_⟩
                  try dsimp only
                  simp -failIfUnchanged (disch := first | omega | (simp [wcs_len] <;> omega) | fail) only [go_sem, simprocAttr]
                  try simp
                · omega
              · try dsimp only
                simp -failIfUnchanged (disch := first | omega | (simp [wcs_len] <;> omega) | fail) only [go_sem, simprocAttr, hx0, ri1]
                refine wcond_dec (fun h6 => ?_) (fun h6 => ?_)
                · omega
                · simp -failIfUnchanged (disch := first | omega | (simp [wcs_len] <;> omega) | fail) only [go_sem, simprocAttr]
                  refine wcall (c34r _ hs) ?_
                  simp -failIfUnchanged (disch := first | omega | (simp [wcs_len] <;> omega) | fail) only [go_sem, simprocAttr]
                  refine wopsN [K 1 0 0, K 2 0 0, K 2 1 0, K 5 0 0, K 5 1 0, K 3 0 1] ?_
                  simp -failIfUnchanged (disch := first | omega | (simp [wcs_len] <;> omega) | fail) only [go_sem, simprocAttr, Nat.le_refl]
                  simp only [chunks_flat0, if_true, chunks, chunk, Nat.zero_add, List.getElem?_cons_zero, List.getElem?_cons_succ, Option.getD_some, Nat.reduceAdd, Bool.false_eq_true, if_false]
                  refine wcall k34 ?_
                  simp -failIfUnchanged (disch := first | omega | (simp [wcs_len] <;> omega) | fail) only [go_sem, simprocAttr]
                  refine wcall (c23k _ hs hc0) ?_
                  simp -failIfUnchanged (disch := first | omega | (simp [wcs_len] <;> omega) | fail) only [go_sem, simprocAttr]
                  refine wcall k23 ?_
                  simp -failIfUnchanged (disch := first | omega | (simp [wcs_len] <;> omega) | fail) only [go_sem, simprocAttr, eq_self, not_true_eq_false]
                  refine wcall (c35r _ hs _) ?_
                  simp -failIfUnchanged (disch := first | omega | (simp [wcs_len] <;> omega) | fail) only [go_sem, simprocAttr]
                  refine wcall k35 ?_
                  simp -failIfUnchanged (disch := first | omega | (simp [wcs_len] <;> omega) | fail) only [go_sem, simprocAttr]
                  refine wcall (c47r _ hs p) ?_
                  simp -failIfUnchanged (disch := first | omega | (simp [wcs_len] <;> omega) | fail) only [go_sem, simprocAttr]
                  refine wcall k47 ?_
                  simp -failIfUnchanged (disch := first | omega | (simp [wcs_len] <;> omega) | fail) only [go_sem, simprocAttr, eq_self]
                  refine wcall c17 ?_
                  simp -failIfUnchanged (disch := first | omega | (simp [wcs_len] <;> omega) | fail) only [go_sem, simprocAttr]
      · simp -failIfUnchanged (disch := first | omega | (simp [wcs_len] <;> omega) | fail) only [go_sem, simprocAttr, h4]
        refine wcall c17 ?_
        simp -failIfUnchanged (disch := first | omega | (simp [wcs_len] <;> omega) | fail) only [go_sem, simprocAttr]
    · simp -failIfUnchanged (disch := first | omega | (simp [wcs_len] <;> omega) | fail) only [go_sem, simprocAttr, h3]
      refine wcall c17 ?_
      simp -failIfUnchanged (disch := first | omega | (simp [wcs_len] <;> omega) | fail) only [go_sem, simprocAttr]
theorem c10v3 (base places : Int) (cords : List (List Sp)) (top : List Sp) (hcl2 : cords.length = 3) (by_ : Int) (n c p : Int) : Ctr Try.prog 10 [KB ⟨base, places, cords, top⟩, .int by_, .agg [.int n, .int c, .int p]] (.bool true) := by
  refine ctr_of_wp hmix Try.func10 m10g rfl ?_
  unfold v10g
  have h1 : cords.length < 9223372036854775808 := by omega
  simp -failIfUnchanged (disch := first | omega | (simp [wcs_len] <;> omega) | fail) only [go_sem, simprocAttr]
  refine wcall (c28 ⟨base, places, cords, top⟩ h1) ?_
  cases hr : (!hugeB ⟨base, places, cords, top⟩ && checkB ⟨base, places, cords, top⟩) with
  | false =>
    simp -failIfUnchanged (disch := first | omega | (simp [wcs_len] <;> omega) | fail) only [go_sem, simprocAttr]
    refine wcall c17 ?_
    simp -failIfUnchanged (disch := first | omega | (simp [wcs_len] <;> omega) | fail) only [go_sem, simprocAttr]
  | true =>
    simp only [Bool.and_eq_true, Bool.not_eq_true'] at hr
    obtain ⟨hh, hc0⟩ := hr
    have hs := small_small hh
    have hv := val_of_check hc0
    have hcl : cords.length ≤ 4 := hv.hc
    have hpl : 1 ≤ places ∧ places ≤ 4 := hv.hp
    have hrw : ∀ l ∈ cords, (l.length : Int) = places := fun l hl => (hv.cord l hl).1
    have htp : (top.length : Int) = places := hv.top.1
    have hrow : ∀ i, i < cords.length → ((cords[i]?.getD default).length : Int) = places := fun i hi => hrw _ (mem_getD hi)
    simp -failIfUnchanged (disch := first | omega | (simp [wcs_len] <;> omega) | fail) only [go_sem, simprocAttr]
    refine WGd_bool (fun h3 => ?_) (fun h3 => ?_)
    · simp -failIfUnchanged (disch := first | omega | (simp [wcs_len] <;> omega) | fail) only [go_sem, simprocAttr, h3]
      refine WGd_bool (fun h4 => ?_) (fun h4 => ?_)
      · simp -failIfUnchanged (disch := first | omega | (simp [wcs_len] <;> omega) | fail) only [go_sem, simprocAttr, h4]
        refine wcall (c30 ⟨base, places, cords, top⟩ p) ?_
        cases h5 : within p 0 (w64 (places - 1)) with
        | false =>
          simp -failIfUnchanged (disch := first | omega | (simp [wcs_len] <;> omega) | fail) only [go_sem, simprocAttr]
          refine wcall c17 ?_
          simp -failIfUnchanged (disch := first | omega | (simp [wcs_len] <;> omega) | fail) only [go_sem, simprocAttr]
        | true =>
          obtain ⟨bn, rfl, hbn⟩ : ∃ bn : Nat, by_ = bn ∧ bn ≤ 100 := ⟨by_.toNat, by simp at h3 h4; omega, by simp at h3 h4; omega⟩
          simp -failIfUnchanged (disch := first | omega | (simp [wcs_len] <;> omega) | fail) only [go_sem, simprocAttr]
          refine wcall_in hmix Try.func18 m18g rfl ?_
          unfold v18g
          simp -failIfUnchanged (disch := first | omega | (simp [wcs_len] <;> omega) | fail) only [go_sem, simprocAttr]
          refine wp_loopX Nat (stC base places cords top [(3, ⟨[.int base, .int places, .sl 1 (cords.map SS) .sh, SS top], false⟩), (5, ⟨[.int n, .int c, .int p], false⟩)]) (fun i => i ≤ cords.length) (fun i => cords.length - i) 0 (by simp) (by unfold stC restC ccC; simp -failIfUnchanged (disch := first | omega | (simp [wcs_len] <;> omega) | fail) only [go_sem, simprocAttr]; try simp) (fun i => by unfold stC; simp -failIfUnchanged (disch := first | omega | (simp [wcs_len] <;> omega) | fail) only [go_sem, simprocAttr]; try simp) ?_
          generalize hS : stC base places cords top [(3, ⟨[.int base, .int places, .sl 1 (cords.map SS) .sh, SS top], false⟩), (5, ⟨[.int n, .int c, .int p], false⟩)] = S
          have hSi := fun i => congrFun hS i
          intro i hi
          have h9 : i = 0 ∨ i = 1 ∨ i = 2 ∨ i = 3 := by omega
          rcases h9 with rfl | rfl | rfl | rfl
          · have hs0 := hSi 0
            simp only [stC, restC, ccC, cellsC, rowsC, List.cons_append, List.nil_append] at hs0
            rw [← hs0]
            simp -failIfUnchanged (disch := first | omega | (simp [wcs_len] <;> omega) | fail) only [go_sem, simprocAttr]
            refine wcond_dec (fun h => ?_) (fun h => ?_)
            · have hlt : 0 < cords.length := by omega
              have hr0 := hrow 0 hlt
              simp -failIfUnchanged (disch := first | omega | (simp [wcs_len] <;> omega) | fail) only [go_sem, simprocAttr]
              refine lpx_norm ⟨1, by omega, by omega, ?_⟩
              have ht := hSi 1
              simp only [stC, restC, ccC, cellsC, rowsC, List.cons_append, List.nil_append] at ht
              rw [← ht]
              simp -failIfUnchanged (disch := first | omega | (simp [wcs_len] <;> omega) | fail) only [go_sem, simprocAttr]
              try simp
            · omega
          · have hs0 := hSi 1
            simp only [stC, restC, ccC, cellsC, rowsC, List.cons_append, List.nil_append] at hs0
            rw [← hs0]
            simp -failIfUnchanged (disch := first | omega | (simp [wcs_len] <;> omega) | fail) only [go_sem, simprocAttr]
            refine wcond_dec (fun h => ?_) (fun h => ?_)
            · have hlt : 1 < cords.length := by omega
              have hr0 := hrow 1 hlt
              simp -failIfUnchanged (disch := first | omega | (simp [wcs_len] <;> omega) | fail) only [go_sem, simprocAttr]
              refine lpx_norm ⟨2, by omega, by omega, ?_⟩
              have ht := hSi 2
              simp only [stC, restC, ccC, cellsC, rowsC, List.cons_append, List.nil_append] at ht
              rw [← ht]
              simp -failIfUnchanged (disch := first | omega | (simp [wcs_len] <;> omega) | fail) only [go_sem, simprocAttr]
              try simp
            · omega
          · have hs0 := hSi 2
            simp only [stC, restC, ccC, cellsC, rowsC, List.cons_append, List.nil_append] at hs0
            rw [← hs0]
            simp -failIfUnchanged (disch := first | omega | (simp [wcs_len] <;> omega) | fail) only [go_sem, simprocAttr]
            refine wcond_dec (fun h => ?_) (fun h => ?_)
            · have hlt : 2 < cords.length := by omega
              have hr0 := hrow 2 hlt
              simp -failIfUnchanged (disch := first | omega | (simp [wcs_len] <;> omega) | fail) only [go_sem, simprocAttr]
              refine lpx_norm ⟨3, by omega, by omega, ?_⟩
              have ht := hSi 3
              simp only [stC, restC, ccC, cellsC, rowsC, List.cons_append, List.nil_append] at ht
              rw [← ht]
              simp -failIfUnchanged (disch := first | omega | (simp [wcs_len] <;> omega) | fail) only [go_sem, simprocAttr]
              try simp
            · omega
          · have hs0 := hSi 3
            simp only [stC, restC, ccC, cellsC, rowsC, List.cons_append, List.nil_append] at hs0
            rw [← hs0]
            simp -failIfUnchanged (disch := first | omega | (simp [wcs_len] <;> omega) | fail) only [go_sem, simprocAttr]
            refine wcond_dec (fun h => ?_) (fun h => ?_)
            · omega
            · skip
              clear hS hSi hs0
              obtain ⟨k34, k23, k35, k47⟩ := ord_facts base places cords top hv hc0 bn (by omega) p
              rw [map_range3 _ hcl2] at k34 k23 k35 k47
              simp only [Nat.zero_add] at k34 k23 k35 k47
              obtain ⟨x0, hx0, hm0⟩ : ∃ x : Nat, bn % cords.length = x ∧ x < cords.length := ⟨_, rfl, Nat.mod_lt _ (by omega)⟩
              have hq0 := hrow _ hm0
              have hp0 := hrow 0 (by omega)
              obtain ⟨x1, hx1, hm1⟩ : ∃ x : Nat, (1 + bn) % cords.length = x ∧ x < cords.length := ⟨_, rfl, Nat.mod_lt _ (by omega)⟩
              have ri1 : Int.tmod (1 + (bn : Int)) (cords.length : Int) = ((x1 : Nat) : Int) := by rw [rot_ix1, hx1]
              have hq1 := hrow _ hm1
              have hp1 := hrow 1 (by omega)
              obtain ⟨x2, hx2, hm2⟩ : ∃ x : Nat, (2 + bn) % cords.length = x ∧ x < cords.length := ⟨_, rfl, Nat.mod_lt _ (by omega)⟩
              have ri2 : Int.tmod (2 + (bn : Int)) (cords.length : Int) = ((x2 : Nat) : Int) := by rw [rot_ix2, hx2]
              have hq2 := hrow _ hm2
              have hp2 := hrow 2 (by omega)
              simp only [hx0, hx1, hx2] at k34 k23 k35 k47
              simp -failIfUnchanged (disch := first | omega | (simp [wcs_len] <;> omega) | fail) only [go_sem, simprocAttr]
              refine wp_loop' Nat (fun j => match j with
                | 0 => ⟨[(1, .int (bn : Nat)), (3, .ptr 3 0), (5, .ptr 5 0), (7, .ptr 7 0), (8, .int (0 : Nat))],
                  [(7, ⟨[.int base, .int places, .gsl 3 0 2 1 3 false, .gsl 1 0 0 2 top.length true], false⟩), (3, ⟨[.int base, .int places, .sl 1 (cords.map SS) .sh, SS top], false⟩), (5, ⟨[.int n, .int c, .int p], false⟩), (K 3 0 2, ⟨[.gsl 2 0 0 2 (cords[0]?.getD default).length true, .gsl 2 1 0 2 (cords[1]?.getD default).length true, .gsl 2 2 0 2 (cords[2]?.getD default).length true], false⟩), (K 1 0 0, ⟨flat (top.map SP), false⟩), (K 2 0 0, ⟨flat ((cords[0]?.getD default).map SP), false⟩), (K 2 1 0, ⟨flat ((cords[1]?.getD default).map SP), false⟩), (K 2 2 0, ⟨flat ((cords[2]?.getD default).map SP), false⟩)], [], none⟩
                | 1 => ⟨[(1, .int (bn : Nat)), (3, .ptr 3 0), (5, .ptr 5 0), (7, .ptr 7 0), (8, .int (1 : Nat))],
                  [(7, ⟨[.int base, .int places, .gsl 3 0 2 1 3 false, .gsl 1 0 0 2 top.length true], false⟩), (3, ⟨[.int base, .int places, .sl 1 (cords.map SS) .sh, SS top], false⟩), (5, ⟨[.int n, .int c, .int p], false⟩), (K 3 0 2, ⟨[.gsl 5 0 0 2 (cords[x0]?.getD default).length true, .gsl 2 1 0 2 (cords[1]?.getD default).length true, .gsl 2 2 0 2 (cords[2]?.getD default).length true], false⟩), (K 1 0 0, ⟨flat (top.map SP), false⟩), (K 5 0 0, ⟨flat ((cords[x0]?.getD default).map SP), false⟩), (K 2 0 0, ⟨flat ((cords[0]?.getD default).map SP), false⟩), (K 2 1 0, ⟨flat ((cords[1]?.getD default).map SP), false⟩), (K 2 2 0, ⟨flat ((cords[2]?.getD default).map SP), false⟩)], [], none⟩
                | 2 => ⟨[(1, .int (bn : Nat)), (3, .ptr 3 0), (5, .ptr 5 0), (7, .ptr 7 0), (8, .int (2 : Nat))],
                  [(7, ⟨[.int base, .int places, .gsl 3 0 2 1 3 false, .gsl 1 0 0 2 top.length true], false⟩), (3, ⟨[.int base, .int places, .sl 1 (cords.map SS) .sh, SS top], false⟩), (5, ⟨[.int n, .int c, .int p], false⟩), (K 3 0 2, ⟨[.gsl 5 0 0 2 (cords[x0]?.getD default).length true, .gsl 5 1 0 2 (cords[x1]?.getD default).length true, .gsl 2 2 0 2 (cords[2]?.getD default).length true], false⟩), (K 1 0 0, ⟨flat (top.map SP), false⟩), (K 5 0 0, ⟨flat ((cords[x0]?.getD default).map SP), false⟩), (K 5 1 0, ⟨flat ((cords[x1]?.getD default).map SP), false⟩), (K 2 0 0, ⟨flat ((cords[0]?.getD default).map SP), false⟩), (K 2 1 0, ⟨flat ((cords[1]?.getD default).map SP), false⟩), (K 2 2 0, ⟨flat ((cords[2]?.getD default).map SP), false⟩)], [], none⟩
                | _ => ⟨[(1, .int (bn : Nat)), (3, .ptr 3 0), (5, .ptr 5 0), (7, .ptr 7 0), (8, .int (3 : Nat))],
                  [(7, ⟨[.int base, .int places, .gsl 3 0 2 1 3 false, .gsl 1 0 0 2 top.length true], false⟩), (3, ⟨[.int base, .int places, .sl 1 (cords.map SS) .sh, SS top], false⟩), (5, ⟨[.int n, .int c, .int p], false⟩), (K 3 0 2, ⟨[.gsl 5 0 0 2 (cords[x0]?.getD default).length true, .gsl 5 1 0 2 (cords[x1]?.getD default).length true, .gsl 5 2 0 2 (cords[x2]?.getD default).length true], false⟩), (K 1 0 0, ⟨flat (top.map SP), false⟩), (K 5 0 0, ⟨flat ((cords[x0]?.getD default).map SP), false⟩), (K 5 1 0, ⟨flat ((cords[x1]?.getD default).map SP), false⟩), (K 5 2 0, ⟨flat ((cords[x2]?.getD default).map SP), false⟩), (K 2 0 0, ⟨flat ((cords[0]?.getD default).map SP), false⟩), (K 2 1 0, ⟨flat ((cords[1]?.getD default).map SP), false⟩), (K 2 2 0, ⟨flat ((cords[2]?.getD default).map SP), false⟩)], [], none⟩)
                (fun j => j ≤ 3) (fun j => 3 - j) 0 (by omega) (by simp -failIfUnchanged (disch := first | omega | (simp [wcs_len] <;> omega) | fail) only [go_sem, simprocAttr]; try simp) ?_
              intro j hj
              have hj9 : j = 0 ∨ j = 1 ∨ j = 2 ∨ j = 3 := by have : j ≤ 3 := hj; omega
              clear hj
              rcases hj9 with rfl | rfl | rfl | rfl
              · try dsimp only
                simp -failIfUnchanged (disch := first | omega | (simp [wcs_len] <;> omega) | fail) only [go_sem, simprocAttr, hx0, ri1, ri2]
                refine wcond_dec (fun h6 => ?_) (fun h6 => ?_)
                · simp -failIfUnchanged (disch := first | omega | (simp [wcs_len] <;> omega) | fail) only [go_sem, simprocAttr, hx0, ri1, ri2]
                  refine ⟨1, by omega, by (try dsimp only); omega, ?_⟩
                  try dsimp only
                  simp -failIfUnchanged (disch := first | omega | (simp [wcs_len] <;> omega) | fail) only [go_sem, simprocAttr]
                  try simp
                · omega
              · try dsimp only
                simp -failIfUnchanged (disch := first | omega | (simp [wcs_len] <;> omega) | fail) only [go_sem, simprocAttr, hx0, ri1, ri2]
                refine wcond_dec (fun h6 => ?_) (fun h6 => ?_)
                · simp -failIfUnchanged (disch := first | omega | (simp [wcs_len] <;> omega) | fail) only [go_sem, simprocAttr, hx0, ri1, ri2]
                  refine ⟨2, by omega, by (try dsimp only); omega, ?_⟩
                  try dsimp only
                  simp -failIfUnchanged (disch := first | omega | (simp [wcs_len] <;> omega) | fail) only [go_sem, simprocAttr]
                  try simp
                · omega
              · try dsimp only
                simp -failIfUnchanged (disch := first | omega | (simp [wcs_len] <;> omega) | fail) only [go_sem, simprocAttr, hx0, ri1, ri2]
                refine wcond_dec (fun h6 => ?_) (fun h6 => ?_)
                · simp -failIfUnchanged (disch := first | omega | (simp [wcs_len] <;> omega) | fail) only [go_sem, simprocAttr, hx0, ri1, ri2]
                  refine ⟨3, by omega, by (try dsimp only); omega, ?_⟩
                  try dsimp only
                  simp -failIfUnchanged (disch := first | omega | (simp [wcs_len] <;> omega) | fail) only [go_sem, simprocAttr]
                  try simp
                · omega
              · try dsimp only
                simp -failIfUnchanged (disch := first | omega | (simp [wcs_len] <;> omega) | fail) only [go_sem, simprocAttr, hx0, ri1, ri2]
                refine wcond_dec (fun h6 => ?_) (fun h6 => ?_)
                · omega
                · simp -failIfUnchanged (disch := first | omega | (simp [wcs_len] <;> omega) | fail) only [go_sem, simprocAttr]
                  refine wcall (c34r _ hs) ?_
                  simp -failIfUnchanged (disch := first | omega | (simp [wcs_len] <;> omega) | fail) only [go_sem, simprocAttr]
                  refine wopsN [K 1 0 0, K 2 0 0, K 2 1 0, K 2 2 0, K 5 0 0, K 5 1 0, K 5 2 0, K 3 0 2] ?_
                  simp -failIfUnchanged (disch := first | omega | (simp [wcs_len] <;> omega) | fail) only [go_sem, simprocAttr, Nat.le_refl]
                  simp only [chunks_flat0, if_true, chunks, chunk, Nat.zero_add, List.getElem?_cons_zero, List.getElem?_cons_succ, Option.getD_some, Nat.reduceAdd, Bool.false_eq_true, if_false]
                  refine wcall k34 ?_
                  simp -failIfUnchanged (disch := first | omega | (simp [wcs_len] <;> omega) | fail) only [go_sem, simprocAttr]
                  refine wcall (c23k _ hs hc0) ?_
                  simp -failIfUnchanged (disch := first | omega | (simp [wcs_len] <;> omega) | fail) only [go_sem, simprocAttr]
                  refine wcall k23 ?_
                  simp -failIfUnchanged (disch := first | omega | (simp [wcs_len] <;> omega) | fail) only [go_sem, simprocAttr, eq_self, not_true_eq_false]
                  refine wcall (c35r _ hs _) ?_
                  simp -failIfUnchanged (disch := first | omega | (simp [wcs_len] <;> omega) | fail) only [go_sem, simprocAttr]
                  refine wcall k35 ?_
                  simp -failIfUnchanged (disch := first | omega | (simp [wcs_len] <;> omega) | fail) only [go_sem, simprocAttr]
                  refine wcall (c47r _ hs p) ?_
                  simp -failIfUnchanged (disch := first | omega | (simp [wcs_len] <;> omega) | fail) only [go_sem, simprocAttr]
                  refine wcall k47 ?_
                  simp -failIfUnchanged (disch := first | omega | (simp [wcs_len] <;> omega) | fail) only [go_sem, simprocAttr, eq_self]
                  refine wcall c17 ?_
                  simp -failIfUnchanged (disch := first | omega | (simp [wcs_len] <;> omega) | fail) only [go_sem, simprocAttr]
      · simp -failIfUnchanged (disch := first | omega | (simp [wcs_len] <;> omega) | fail) only [go_sem, simprocAttr, h4]
        refine wcall c17 ?_
        simp -failIfUnchanged (disch := first | omega | (simp [wcs_len] <;> omega) | fail) only [go_sem, simprocAttr]
    · simp -failIfUnchanged (disch := first | omega | (simp [wcs_len] <;> omega) | fail) only [go_sem, simprocAttr, h3]
      refine wcall c17 ?_
      simp -failIfUnchanged (disch := first | omega | (simp [wcs_len] <;> omega) | fail) only [go_sem, simprocAttr]
theorem c10v4 (base places : Int) (cords : List (List Sp)) (top : List Sp) (hcl2 : cords.length = 4) (by_ : Int) (n c p : Int) : Ctr Try.prog 10 [KB ⟨base, places, cords, top⟩, .int by_, .agg [.int n, .int c, .int p]] (.bool true) := by
  refine ctr_of_wp hmix Try.func10 m10g rfl ?_
  unfold v10g
  have h1 : cords.length < 9223372036854775808 := by omega
  simp -failIfUnchanged (disch := first | omega | (simp [wcs_len] <;> omega) | fail) only [go_sem, simprocAttr]
  refine wcall (c28 ⟨base, places, cords, top⟩ h1) ?_
  cases hr : (!hugeB ⟨base, places, cords, top⟩ && checkB ⟨base, places, cords, top⟩) with
  | false =>
    simp -failIfUnchanged (disch := first | omega | (simp [wcs_len] <;> omega) | fail) only [go_sem, simprocAttr]
    refine wcall c17 ?_
    simp -failIfUnchanged (disch := first | omega | (simp [wcs_len] <;> omega) | fail) only [go_sem, simprocAttr]
  | true =>
    simp only [Bool.and_eq_true, Bool.not_eq_true'] at hr
    obtain ⟨hh, hc0⟩ := hr
    have hs := small_small hh
    have hv := val_of_check hc0
    have hcl : cords.length ≤ 4 := hv.hc
    have hpl : 1 ≤ places ∧ places ≤ 4 := hv.hp
    have hrw : ∀ l ∈ cords, (l.length : Int) = places := fun l hl => (hv.cord l hl).1
    have htp : (top.length : Int) = places := hv.top.1
    have hrow : ∀ i, i < cords.length → ((cords[i]?.getD default).length : Int) = places := fun i hi => hrw _ (mem_getD hi)
    simp -failIfUnchanged (disch := first | omega | (simp [wcs_len] <;> omega) | fail) only [go_sem, simprocAttr]
    refine WGd_bool (fun h3 => ?_) (fun h3 => ?_)
    · simp -failIfUnchanged (disch := first | omega | (simp [wcs_len] <;> omega) | fail) only [go_sem, simprocAttr, h3]
      refine WGd_bool (fun h4 => ?_) (fun h4 => ?_)
      · simp -failIfUnchanged (disch := first | omega | (simp [wcs_len] <;> omega) | fail) only [go_sem, simprocAttr, h4]
        refine wcall (c30 ⟨base, places, cords, top⟩ p) ?_
        cases h5 : within p 0 (w64 (places - 1)) with
        | false =>
          simp -failIfUnchanged (disch := first | omega | (simp [wcs_len] <;> omega) | fail) only [go_sem, simprocAttr]
          refine wcall c17 ?_
          simp -failIfUnchanged (disch := first | omega | (simp [wcs_len] <;> omega) | fail) only [go_sem, simprocAttr]
        | true =>
          obtain ⟨bn, rfl, hbn⟩ : ∃ bn : Nat, by_ = bn ∧ bn ≤ 100 := ⟨by_.toNat, by simp at h3 h4; omega, by simp at h3 h4; omega⟩
          simp -failIfUnchanged (disch := first | omega | (simp [wcs_len] <;> omega) | fail) only [go_sem, simprocAttr]
          refine wcall_in hmix Try.func18 m18g rfl ?_
          unfold v18g
          simp -failIfUnchanged (disch := first | omega | (simp [wcs_len] <;> omega) | fail) only [go_sem, simprocAttr]
          refine wp_loopX Nat (stC base places cords top [(3, ⟨[.int base, .int places, .sl 1 (cords.map SS) .sh, SS top], false⟩), (5, ⟨[.int n, .int c, .int p], false⟩)]) (fun i => i ≤ cords.length) (fun i => cords.length - i) 0 (by simp) (by unfold stC restC ccC; simp -failIfUnchanged (disch := first | omega | (simp [wcs_len] <;> omega) | fail) only [go_sem, simprocAttr]; try simp) (fun i => by unfold stC; simp -failIfUnchanged (disch := first | omega | (simp [wcs_len] <;> omega) | fail) only [go_sem, simprocAttr]; try simp) ?_
          generalize hS : stC base places cords top [(3, ⟨[.int base, .int places, .sl 1 (cords.map SS) .sh, SS top], false⟩), (5, ⟨[.int n, .int c, .int p], false⟩)] = S
          have hSi := fun i => congrFun hS i
          intro i hi
          have h9 : i = 0 ∨ i = 1 ∨ i = 2 ∨ i = 3 ∨ i = 4 := by omega
          rcases h9 with rfl | rfl | rfl | rfl | rfl
          · have hs0 := hSi 0
            simp only [stC, restC, ccC, cellsC, rowsC, List.cons_append, List.nil_append] at hs0
            rw [← hs0]
            simp -failIfUnchanged (disch := first | omega | (simp [wcs_len] <;> omega) | fail) only [go_sem, simprocAttr]
            refine wcond_dec (fun h => ?_) (fun h => ?_)
            · have hlt : 0 < cords.length := by omega
              have hr0 := hrow 0 hlt
              simp -failIfUnchanged (disch := first | omega | (simp [wcs_len] <;> omega) | fail) only [go_sem, simprocAttr]
              refine lpx_norm ⟨1, by omega, by omega, ?_⟩
              have ht := hSi 1
              simp only [stC, restC, ccC, cellsC, rowsC, List.cons_append, List.nil_append] at ht
              rw [← ht]
              simp -failIfUnchanged (disch := first | omega | (simp [wcs_len] <;> omega) | fail) only [go_sem, simprocAttr]
              try simp
            · omega
          · have hs0 := hSi 1
            simp only [stC, restC, ccC, cellsC, rowsC, List.cons_append, List.nil_append] at hs0
            rw [← hs0]
            simp -failIfUnchanged (disch := first | omega | (simp [wcs_len] <;> omega) | fail) only [go_sem, simprocAttr]
            refine wcond_dec (fun h => ?_) (fun h => ?_)
            · have hlt : 1 < cords.length := by omega
              have hr0 := hrow 1 hlt
              simp -failIfUnchanged (disch := first | omega | (simp [wcs_len] <;> omega) | fail) only [go_sem, simprocAttr]
              refine lpx_norm ⟨2, by omega, by omega, ?_⟩
              have ht := hSi 2
              simp only [stC, restC, ccC, cellsC, rowsC, List.cons_append, List.nil_append] at ht
              rw [← ht]
              simp -failIfUnchanged (disch := first | omega | (simp [wcs_len] <;> omega) | fail) only [go_sem, simprocAttr]
              try simp
            · omega
          · have hs0 := hSi 2
            simp only [stC, restC, ccC, cellsC, rowsC, List.cons_append, List.nil_append] at hs0
            rw [← hs0]
            simp -failIfUnchanged (disch := first | omega | (simp [wcs_len] <;> omega) | fail) only [go_sem, simprocAttr]
            refine wcond_dec (fun h => ?_) (fun h => ?_)
            · have hlt : 2 < cords.length := by omega
              have hr0 := hrow 2 hlt
              simp -failIfUnchanged (disch := first | omega | (simp [wcs_len] <;> omega) | fail) only [go_sem, simprocAttr]
              refine lpx_norm ⟨3, by omega, by omega, ?_⟩
              have ht := hSi 3
              simp only [stC, restC, ccC, cellsC, rowsC, List.cons_append, List.nil_append] at ht
              rw [← ht]
              simp -failIfUnchanged (disch := first | omega | (simp [wcs_len] <;> omega) | fail) only [go_sem, simprocAttr]
              try simp
            · omega
          · have hs0 := hSi 3
            simp only [stC, restC, ccC, cellsC, rowsC, List.cons_append, List.nil_append] at hs0
            rw [← hs0]
            simp -failIfUnchanged (disch := first | omega | (simp [wcs_len] <;> omega) | fail) only [go_sem, simprocAttr]
            refine wcond_dec (fun h => ?_) (fun h => ?_)
            · have hlt : 3 < cords.length := by omega
              have hr0 := hrow 3 hlt
              simp -failIfUnchanged (disch := first | omega | (simp [wcs_len] <;> omega) | fail) only [go_sem, simprocAttr]
              refine lpx_norm ⟨4, by omega, by omega, ?_⟩
              have ht := hSi 4
              simp only [stC, restC, ccC, cellsC, rowsC, List.cons_append, List.nil_append] at ht
              rw [← ht]
              simp -failIfUnchanged (disch := first | omega | (simp [wcs_len] <;> omega) | fail) only [go_sem, simprocAttr]
              try simp
            · omega
          · have hs0 := hSi 4
            simp only [stC, restC, ccC, cellsC, rowsC, List.cons_append, List.nil_append] at hs0
            rw [← hs0]
            simp -failIfUnchanged (disch := first | omega | (simp [wcs_len] <;> omega) | fail) only [go_sem, simprocAttr]
            refine wcond_dec (fun h => ?_) (fun h => ?_)
            · omega
            · skip
              clear hS hSi hs0
              obtain ⟨k34, k23, k35, k47⟩ := ord_facts base places cords top hv hc0 bn (by omega) p
              rw [map_range4 _ hcl2] at k34 k23 k35 k47
              simp only [Nat.zero_add] at k34 k23 k35 k47
              obtain ⟨x0, hx0, hm0⟩ : ∃ x : Nat, bn % cords.length = x ∧ x < cords.length := ⟨_, rfl, Nat.mod_lt _ (by omega)⟩
              have hq0 := hrow _ hm0
              have hp0 := hrow 0 (by omega)
              obtain ⟨x1, hx1, hm1⟩ : ∃ x : Nat, (1 + bn) % cords.length = x ∧ x < cords.length := ⟨_, rfl, Nat.mod_lt _ (by omega)⟩
              have ri1 : Int.tmod (1 + (bn : Int)) (cords.length : Int) = ((x1 : Nat) : Int) := by rw [rot_ix1, hx1]
              have hq1 := hrow _ hm1
              have hp1 := hrow 1 (by omega)
              obtain ⟨x2, hx2, hm2⟩ : ∃ x : Nat, (2 + bn) % cords.length = x ∧ x < cords.length := ⟨_, rfl, Nat.mod_lt _ (by omega)⟩
              have ri2 : Int.tmod (2 + (bn : Int)) (cords.length : Int) = ((x2 : Nat) : Int) := by rw [rot_ix2, hx2]
              have hq2 := hrow _ hm2
              have hp2 := hrow 2 (by omega)
              obtain ⟨x3, hx3, hm3⟩ : ∃ x : Nat, (3 + bn) % cords.length = x ∧ x < cords.length := ⟨_, rfl, Nat.mod_lt _ (by omega)⟩
              have ri3 : Int.tmod (3 + (bn : Int)) (cords.length : Int) = ((x3 : Nat) : Int) := by rw [rot_ix3, hx3]
              have hq3 := hrow _ hm3
              have hp3 := hrow 3 (by omega)
              simp only [hx0, hx1, hx2, hx3] at k34 k23 k35 k47
              simp -failIfUnchanged (disch := first | omega | (simp [wcs_len] <;> omega) | fail) only [go_sem, simprocAttr]
              refine wp_loop' Nat (fun j => match j with
                | 0 => ⟨[(1, .int (bn : Nat)), (3, .ptr 3 0), (5, .ptr 5 0), (7, .ptr 7 0), (8, .int (0 : Nat))],
                  [(7, ⟨[.int base, .int places, .gsl 3 0 3 1 4 false, .gsl 1 0 0 2 top.length true], false⟩), (3, ⟨[.int base, .int places, .sl 1 (cords.map SS) .sh, SS top], false⟩), (5, ⟨[.int n, .int c, .int p], false⟩), (K 3 0 3, ⟨[.gsl 2 0 0 2 (cords[0]?.getD default).length true, .gsl 2 1 0 2 (cords[1]?.getD default).length true, .gsl 2 2 0 2 (cords[2]?.getD default).length true, .gsl 2 3 0 2 (cords[3]?.getD default).length true], false⟩), (K 1 0 0, ⟨flat (top.map SP), false⟩), (K 2 0 0, ⟨flat ((cords[0]?.getD default).map SP), false⟩), (K 2 1 0, ⟨flat ((cords[1]?.getD default).map SP), false⟩), (K 2 2 0, ⟨flat ((cords[2]?.getD default).map SP), false⟩), (K 2 3 0, ⟨flat ((cords[3]?.getD default).map SP), false⟩)], [], none⟩
                | 1 => ⟨[(1, .int (bn : Nat)), (3, .ptr 3 0), (5, .ptr 5 0), (7, .ptr 7 0), (8, .int (1 : Nat))],
                  [(7, ⟨[.int base, .int places, .gsl 3 0 3 1 4 false, .gsl 1 0 0 2 top.length true], false⟩), (3, ⟨[.int base, .int places, .sl 1 (cords.map SS) .sh, SS top], false⟩), (5, ⟨[.int n, .int c, .int p], false⟩), (K 3 0 3, ⟨[.gsl 5 0 0 2 (cords[x0]?.getD default).length true, .gsl 2 1 0 2 (cords[1]?.getD default).length true, .gsl 2 2 0 2 (cords[2]?.getD default).length true, .gsl 2 3 0 2 (cords[3]?.getD default).length true], false⟩), (K 1 0 0, ⟨flat (top.map SP), false⟩), (K 5 0 0, ⟨flat ((cords[x0]?.getD default).map SP), false⟩), (K 2 0 0, ⟨flat ((cords[0]?.getD default).map SP), false⟩), (K 2 1 0, ⟨flat ((cords[1]?.getD default).map SP), false⟩), (K 2 2 0, ⟨flat ((cords[2]?.getD default).map SP), false⟩), (K 2 3 0, ⟨flat ((cords[3]?.getD default).map SP), false⟩)], [], none⟩
                | 2 => ⟨[(1, .int (bn : Nat)), (3, .ptr 3 0), (5, .ptr 5 0), (7, .ptr 7 0), (8, .int (2 : Nat))],
                  [(7, ⟨[.int base, .int places, .gsl 3 0 3 1 4 false, .gsl 1 0 0 2 top.length true], false⟩), (3, ⟨[.int base, .int places, .sl 1 (cords.map SS) .sh, SS top], false⟩), (5, ⟨[.int n, .int c, .int p], false⟩), (K 3 0 3, ⟨[.gsl 5 0 0 2 (cords[x0]?.getD default).length true, .gsl 5 1 0 2 (cords[x1]?.getD default).length true, .gsl 2 2 0 2 (cords[2]?.getD default).length true, .gsl 2 3 0 2 (cords[3]?.getD default).length true], false⟩), (K 1 0 0, ⟨flat (top.map SP), false⟩), (K 5 0 0, ⟨flat ((cords[x0]?.getD default).map SP), false⟩), (K 5 1 0, ⟨flat ((cords[x1]?.getD default).map SP), false⟩), (K 2 0 0, ⟨flat ((cords[0]?.getD default).map SP), false⟩), (K 2 1 0, ⟨flat ((cords[1]?.getD default).map SP), false⟩), (K 2 2 0, ⟨flat ((cords[2]?.getD default).map SP), false⟩), (K 2 3 0, ⟨flat ((cords[3]?.getD default).map SP), false⟩)], [], none⟩
                | 3 => ⟨[(1, .int (bn : Nat)), (3, .ptr 3 0), (5, .ptr 5 0), (7, .ptr 7 0), (8, .int (3 : Nat))],
                  [(7, ⟨[.int base, .int places, .gsl 3 0 3 1 4 false, .gsl 1 0 0 2 top.length true], false⟩), (3, ⟨[.int base, .int places, .sl 1 (cords.map SS) .sh, SS top], false⟩), (5, ⟨[.int n, .int c, .int p], false⟩), (K 3 0 3, ⟨[.gsl 5 0 0 2 (cords[x0]?.getD default).length true, .gsl 5 1 0 2 (cords[x1]?.getD default).length true, .gsl 5 2 0 2 (cords[x2]?.getD default).length true, .gsl 2 3 0 2 (cords[3]?.getD default).length true], false⟩), (K 1 0 0, ⟨flat (top.map SP), false⟩), (K 5 0 0, ⟨flat ((cords[x0]?.getD default).map SP), false⟩), (K 5 1 0, ⟨flat ((cords[x1]?.getD default).map SP), false⟩), (K 5 2 0, ⟨flat ((cords[x2]?.getD default).map SP), false⟩), (K 2 0 0, ⟨flat ((cords[0]?.getD default).map SP), false⟩), (K 2 1 0, ⟨flat ((cords[1]?.getD default).map SP), false⟩), (K 2 2 0, ⟨flat ((cords[2]?.getD default).map SP), false⟩), (K 2 3 0, ⟨flat ((cords[3]?.getD default).map SP), false⟩)], [], none⟩
                | _ => ⟨[(1, .int (bn : Nat)), (3, .ptr 3 0), (5, .ptr 5 0), (7, .ptr 7 0), (8, .int (4 : Nat))],
                  [(7, ⟨[.int base, .int places, .gsl 3 0 3 1 4 false, .gsl 1 0 0 2 top.length true], false⟩), (3, ⟨[.int base, .int places, .sl 1 (cords.map SS) .sh, SS top], false⟩), (5, ⟨[.int n, .int c, .int p], false⟩), (K 3 0 3, ⟨[.gsl 5 0 0 2 (cords[x0]?.getD default).length true, .gsl 5 1 0 2 (cords[x1]?.getD default).length true, .gsl 5 2 0 2 (cords[x2]?.getD default).length true, .gsl 5 3 0 2 (cords[x3]?.getD default).length true], false⟩), (K 1 0 0, ⟨flat (top.map SP), false⟩), (K 5 0 0, ⟨flat ((cords[x0]?.getD default).map SP), false⟩), (K 5 1 0, ⟨flat ((cords[x1]?.getD default).map SP), false⟩), (K 5 2 0, ⟨flat ((cords[x2]?.getD default).map SP), false⟩), (K 5 3 0, ⟨flat ((cords[x3]?.getD default).map SP), false⟩), (K 2 0 0, ⟨flat ((cords[0]?.getD default).map SP), false⟩), (K 2 1 0, ⟨flat ((cords[1]?.getD default).map SP), false⟩), (K 2 2 0, ⟨flat ((cords[2]?.getD default).map SP), false⟩), (K 2 3 0, ⟨flat ((cords[3]?.getD default).map SP), false⟩)], [], none⟩)
                (fun j => j ≤ 4) (fun j => 4 - j) 0 (by omega) (by simp -failIfUnchanged (disch := first | omega | (simp [wcs_len] <;> omega) | fail) only [go_sem, simprocAttr]; try simp) ?_
              intro j hj
              have hj9 : j = 0 ∨ j = 1 ∨ j = 2 ∨ j = 3 ∨ j = 4 := by have : j ≤ 4 := hj; omega
              clear hj
              rcases hj9 with rfl | rfl | rfl | rfl | rfl
              · try dsimp only
                simp -failIfUnchanged (disch := first | omega | (simp [wcs_len] <;> omega) | fail) only [go_sem, simprocAttr, hx0, ri1, ri2, ri3]
                refine wcond_dec (fun h6 => ?_) (fun h6 => ?_)
                · simp -failIfUnchanged (disch := first | omega | (simp [wcs_len] <;> omega) | fail) only [go_sem, simprocAttr, hx0, ri1, ri2, ri3]
                  refine ⟨1, by omega, by (try dsimp only); omega, ?_⟩
                  try dsimp only
                  simp -failIfUnchanged (disch := first | omega | (simp [wcs_len] <;> omega) | fail) only [go_sem, simprocAttr]
                  try simp
                · omega
              · try dsimp only
                simp -failIfUnchanged (disch := first | omega | (simp [wcs_len] <;> omega) | fail) only [go_sem, simprocAttr, hx0, ri1, ri2, ri3]
                refine wcond_dec (fun h6 => ?_) (fun h6 => ?_)
                · simp -failIfUnchanged (disch := first | omega | (simp [wcs_len] <;> omega) | fail) only [go_sem, simprocAttr, hx0, ri1, ri2, ri3]
                  refine ⟨2, by omega, by (try dsimp only); omega, ?_⟩
                  try dsimp only
                  simp -failIfUnchanged (disch := first | omega | (simp [wcs_len] <;> omega) | fail) only [go_sem, simprocAttr]
                  try simp
                · omega
              · try dsimp only
                simp -failIfUnchanged (disch := first | omega | (simp [wcs_len] <;> omega) | fail) only [go_sem, simprocAttr, hx0, ri1, ri2, ri3]
                refine wcond_dec (fun h6 => ?_) (fun h6 => ?_)
                · simp -failIfUnchanged (disch := first | omega | (simp [wcs_len] <;> omega) | fail) only [go_sem, simprocAttr, hx0, ri1, ri2, ri3]
                  refine ⟨3, by omega, by (try dsimp only); omega, ?_⟩
                  try dsimp only
                  simp -failIfUnchanged (disch := first | omega | (simp [wcs_len] <;> omega) | fail) only [go_sem, simprocAttr]
                  try simp
                · omega
              · try dsimp only
                simp -failIfUnchanged (disch := first | omega | (simp [wcs_len] <;> omega) | fail) only [go_sem, simprocAttr, hx0, ri1, ri2, ri3]
                refine wcond_dec (fun h6 => ?_) (fun h6 => ?_)
                · simp -failIfUnchanged (disch := first | omega | (simp [wcs_len] <;> omega) | fail) only [go_sem, simprocAttr, hx0, ri1, ri2, ri3]
                  refine ⟨4, by omega, by (try dsimp only); omega, ?_⟩
                  try dsimp only
                  simp -failIfUnchanged (disch := first | omega | (simp [wcs_len] <;> omega) | fail) only [go_sem, simprocAttr]
                  try simp
                · omega
              · try dsimp only
                simp -failIfUnchanged (disch := first | omega | (simp [wcs_len] <;> omega) | fail) only [go_sem, simprocAttr, hx0, ri1, ri2, ri3]
                refine wcond_dec (fun h6 => ?_) (fun h6 => ?_)
                · omega
                · simp -failIfUnchanged (disch := first | omega | (simp [wcs_len] <;> omega) | fail) only [go_sem, simprocAttr]
                  refine wcall (c34r _ hs) ?_
                  simp -failIfUnchanged (disch := first | omega | (simp [wcs_len] <;> omega) | fail) only [go_sem, simprocAttr]
                  refine wopsN [K 1 0 0, K 2 0 0, K 2 1 0, K 2 2 0, K 2 3 0, K 5 0 0, K 5 1 0, K 5 2 0, K 5 3 0, K 3 0 3] ?_
                  simp -failIfUnchanged (disch := first | omega | (simp [wcs_len] <;> omega) | fail) only [go_sem, simprocAttr, Nat.le_refl]
                  simp only [chunks_flat0, if_true, chunks, chunk, Nat.zero_add, List.getElem?_cons_zero, List.getElem?_cons_succ, Option.getD_some, Nat.reduceAdd, Bool.false_eq_true, if_false]
                  refine wcall k34 ?_
                  simp -failIfUnchanged (disch := first | omega | (simp [wcs_len] <;> omega) | fail) only [go_sem, simprocAttr]
                  refine wcall (c23k _ hs hc0) ?_
                  simp -failIfUnchanged (disch := first | omega | (simp [wcs_len] <;> omega) | fail) only [go_sem, simprocAttr]
                  refine wcall k23 ?_
                  simp -failIfUnchanged (disch := first | omega | (simp [wcs_len] <;> omega) | fail) only [go_sem, simprocAttr, eq_self, not_true_eq_false]
                  refine wcall (c35r _ hs _) ?_
                  simp -failIfUnchanged (disch := first | omega | (simp [wcs_len] <;> omega) | fail) only [go_sem, simprocAttr]
                  refine wcall k35 ?_
                  simp -failIfUnchanged (disch := first | omega | (simp [wcs_len] <;> omega) | fail) only [go_sem, simprocAttr]
                  refine wcall (c47r _ hs p) ?_
                  simp -failIfUnchanged (disch := first | omega | (simp [wcs_len] <;> omega) | fail) only [go_sem, simprocAttr]
                  refine wcall k47 ?_
                  simp -failIfUnchanged (disch := first | omega | (simp [wcs_len] <;> omega) | fail) only [go_sem, simprocAttr, eq_self]
                  refine wcall c17 ?_
                  simp -failIfUnchanged (disch := first | omega | (simp [wcs_len] <;> omega) | fail) only [go_sem, simprocAttr]
      · simp -failIfUnchanged (disch := first | omega | (simp [wcs_len] <;> omega) | fail) only [go_sem, simprocAttr, h4]
        refine wcall c17 ?_
        simp -failIfUnchanged (disch := first | omega | (simp [wcs_len] <;> omega) | fail) only [go_sem, simprocAttr]
    · simp -failIfUnchanged (disch := first | omega | (simp [wcs_len] <;> omega) | fail) only [go_sem, simprocAttr, h3]
      refine wcall c17 ?_
      simp -failIfUnchanged (disch := first | omega | (simp [wcs_len] <;> omega) | fail) only [go_sem, simprocAttr]
theorem c10 (b : Bk) (h1 : b.cords.length < 9223372036854775808) (by_ : Int) (n c p : Int) : Ctr Try.prog 10 [KB b, .int by_, .agg [.int n, .int c, .int p]] (.bool true) := by
  obtain ⟨base, places, cords, top⟩ := b
  by_cases h : cords.length ≤ 4
  · have h9 : cords.length = 0 ∨ cords.length = 1 ∨ cords.length = 2 ∨ cords.length = 3 ∨ cords.length = 4 := by omega
    rcases h9 with h | h | h | h | h
    · exact c10v0 _ _ _ _ h _ _ _ _
    · exact c10v1 _ _ _ _ h _ _ _ _
    · exact c10v2 _ _ _ _ h _ _ _ _
    · exact c10v3 _ _ _ _ h _ _ _ _
    · exact c10v4 _ _ _ _ h _ _ _ _
  · refine ctr_of_wp hmix Try.func10 m10g rfl ?_
    unfold v10g
    simp -failIfUnchanged (disch := first | omega | (simp [wcs_len] <;> omega) | fail) only [go_sem, simprocAttr]
    refine wcall (c28 ⟨base, places, cords, top⟩ h1) ?_
    cases hr : (!hugeB ⟨base, places, cords, top⟩ && checkB ⟨base, places, cords, top⟩) with
    | false =>
      simp -failIfUnchanged (disch := first | omega | (simp [wcs_len] <;> omega) | fail) only [go_sem, simprocAttr]
      refine wcall c17 ?_
      simp -failIfUnchanged (disch := first | omega | (simp [wcs_len] <;> omega) | fail) only [go_sem, simprocAttr]
    | true =>
      simp only [Bool.and_eq_true, Bool.not_eq_true'] at hr
      exact absurd (val_of_check hr.2).hc h

end Go.Proofs.Ytkkiipjfbebipaa
